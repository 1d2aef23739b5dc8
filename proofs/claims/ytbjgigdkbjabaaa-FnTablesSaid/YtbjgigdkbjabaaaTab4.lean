/- Tab4: rows of a table: the reference's function. Each contract holds for every argument, under the premises that it states. -/
import Derived.Test.YtbjgigdkbjabaaaTab3
namespace Go.Proofs.Ytbjgigdkbjabaaa
set_option linter.unusedSimpArgs false
set_option linter.unusedVariables false
set_option linter.unnecessarySimpa false
open Go.RowKit Go.ChangeShapes Go.WideShapes Go.ChangeAt Go.Joins

theorem rw_field {w : World} {lo hi g c : Nat} {l : List Rw} (h : PcsP lo hi (rwRL.pcs (some ⟨g, 0, none⟩) c l) w) {j i : Nat} {x x' : Rw} {v : Value} (hx : l[j]? = some x) (hi' : i < 6) (hf : rwRL.f x' = (rwRL.f x).set i v) :
    PcsP lo hi (rwRL.pcs (some ⟨g, 0, none⟩) c (l.set j x')) (w.setCell ⟨g, j * 6 + i, none⟩ v) ∧ Chg lo hi w (w.setCell ⟨g, j * 6 + i, none⟩ v) := RL.setField h hx hi' hf rfl
theorem rw_cells {w : World} {lo hi g c : Nat} {l : List Rw} (h : PcsP lo hi (rwRL.pcs (some ⟨g, 0, none⟩) c l) w) {j : Nat} {x : Rw} (hx : l[j]? = some x) :
    w.cell? ⟨g, j * 6, none⟩ = some (.int .i64 x.player) ∧ w.cell? ⟨g, j * 6 + 1, none⟩ = some (.int .i64 x.points) ∧ w.cell? ⟨g, j * 6 + 2, none⟩ = some (.int .i64 x.wins) ∧ w.cell? ⟨g, j * 6 + 3, none⟩ = some (.int .i64 x.games) ∧ w.cell? ⟨g, j * 6 + 4, none⟩ = some (.int .i64 x.against) ∧ w.cell? ⟨g, j * 6 + 5, none⟩ = some (.int .i64 x.strength) := by
  obtain ⟨q0, _⟩ : _ ∧ _ := RL.cell h hx (i := 0) (by decide) rfl
  obtain ⟨q1, _⟩ : _ ∧ _ := RL.cell h hx (i := 1) (by decide) rfl
  obtain ⟨q2, _⟩ : _ ∧ _ := RL.cell h hx (i := 2) (by decide) rfl
  obtain ⟨q3, _⟩ : _ ∧ _ := RL.cell h hx (i := 3) (by decide) rfl
  obtain ⟨q4, _⟩ : _ ∧ _ := RL.cell h hx (i := 4) (by decide) rfl
  obtain ⟨q5, _⟩ : _ ∧ _ := RL.cell h hx (i := 5) (by decide) rfl
  simp only [show rwRL.n = 6 from rfl, Nat.add_zero] at q0 q1 q2 q3 q4 q5
  exact ⟨q0, q1, q2, q3, q4, q5⟩

set_option maxRecDepth 100000 in
set_option maxHeartbeats 8000000 in
theorem l26Count_c (lo hi g c k : Nat) (l : List Rw) (x : Rw) (s : Int) (ff : Bool) (w : World) (h : PcsP lo hi (rwRL.pcs (some ⟨g, 0, none⟩) c l) w) (hx : l[k]? = some x) (hs : 0 ≤ s ∧ s ≤ 2) (hp : 0 ≤ x.points ∧ x.points ≤ 1000) (hw' : 0 ≤ x.wins ∧ x.wins ≤ 1000) (hg' : 0 ≤ x.games ∧ x.games ≤ 1000) :
    Calls Try.prog 146 #[.pointer (some ⟨g, k * 6, none⟩), .int .i64 s, .bool ff] w fun e w' => e = .returned (.tuple #[]) ∧ PcsP lo hi (rwRL.pcs (some ⟨g, 0, none⟩) c (l.set k (cntRw x s ff))) w' ∧ Chg lo hi w w' := by
  have hkl : k < l.length := (List.getElem?_eq_some_iff.1 hx).1
  obtain ⟨q0, q1, q2, q3, q4, q5⟩ := rw_cells h hx
  have gf := fun o => (RL.main h).frozenAt o
  have hw1 : IntKind.i64.wrap (x.points + s) = x.points + s := IntWalk.i64_in _ (by omega)
  have hw2 : IntKind.i64.wrap (x.wins + 1) = x.wins + 1 := IntWalk.i64_in _ (by omega)
  have hw3 : IntKind.i64.wrap (x.games + 1) = x.games + 1 := IntWalk.i64_in _ (by omega)
  obtain ⟨h1, g1⟩ := rw_field h (i := 1) (v := .int .i64 (x.points + s)) (x' := ⟨x.player, x.points + s, x.wins, x.games, x.against, x.strength⟩) hx (by decide) rfl
  have hx1 : (l.set k ⟨x.player, x.points + s, x.wins, x.games, x.against, x.strength⟩)[k]? = some ⟨x.player, x.points + s, x.wins, x.games, x.against, x.strength⟩ := List.getElem?_set_self hkl
  obtain ⟨h2, g2⟩ := rw_field h1 (i := 2) (v := .int .i64 (x.wins + 1)) (x' := ⟨x.player, x.points + s, x.wins + 1, x.games, x.against, x.strength⟩) hx1 (by decide) rfl
  rw [List.set_set] at h2
  have hx2 : (l.set k ⟨x.player, x.points + s, x.wins + 1, x.games, x.against, x.strength⟩)[k]? = some ⟨x.player, x.points + s, x.wins + 1, x.games, x.against, x.strength⟩ := List.getElem?_set_self hkl
  obtain ⟨h3, g3⟩ := rw_field h2 (i := 3) (v := .int .i64 (x.games + 1)) (x' := ⟨x.player, x.points + s, x.wins + 1, x.games + 1, x.against, x.strength⟩) hx2 (by decide) rfl
  rw [List.set_set] at h3
  obtain ⟨h4, g4⟩ := rw_field h1 (i := 3) (v := .int .i64 (x.games + 1)) (x' := ⟨x.player, x.points + s, x.wins, x.games + 1, x.against, x.strength⟩) hx1 (by decide) rfl
  rw [List.set_set] at h4
  have H1 := Lib.hid (And.intro h1 g1)
  have H2 := Lib.hid (And.intro h2 (g1.trans g2))
  have H3 := Lib.hid (And.intro h3 ((g1.trans g2).trans g3))
  have H4 := Lib.hid (And.intro h4 (g1.trans g4))
  have hgl : g < w.heap.size := World.block_lt_of_cell? w _ q0
  clear h h1 h2 h3 h4 g1 g2 g3 g4 hx hx1 hx2 hp hw' hg'
  by_cases h2 : s = 2
  · subst h2
    cases ff
    · have HE : Hid (cntRw x 2 false = ⟨x.player, x.points + 2, x.wins + 1, x.games + 1, x.against, x.strength⟩) := rfl
      go_enter Try.func146, Try.ntmps146
      go_wp2
      go_end0
      rw [HE.out]
      exact ⟨rfl, H3.out⟩
    · have HE : Hid (cntRw x 2 true = ⟨x.player, x.points + 2, x.wins + 1, x.games, x.against, x.strength⟩) := rfl
      go_enter Try.func146, Try.ntmps146
      go_wp2
      go_end0
      rw [HE.out]
      exact ⟨rfl, H2.out⟩
  · have h3 : (s == 2) = false := by simpa using h2
    cases ff
    · have HE : Hid (cntRw x s false = ⟨x.player, x.points + s, x.wins, x.games + 1, x.against, x.strength⟩) := by unfold Hid cntRw; rw [if_neg h2]; rfl
      clear h2
      go_enter Try.func146, Try.ntmps146
      go_wp2
      go_end0
      rw [HE.out]
      exact ⟨rfl, H4.out⟩
    · have HE : Hid (cntRw x s true = ⟨x.player, x.points + s, x.wins, x.games, x.against, x.strength⟩) := by unfold Hid cntRw; rw [if_neg h2]; rfl
      clear h2
      go_enter Try.func146, Try.ntmps146
      go_wp2
      go_end0
      rw [HE.out]
      exact ⟨rfl, H1.out⟩

theorem rowsAt_succ (n : Nat) (all l k j : List Mt) : rowsAt (n + 1) all l k j = rowsAt n all l k j ++ [rowOf all l k j (n : Int)] := by
  unfold rowsAt
  rw [List.range_succ, List.map_append]
  rfl
theorem addr_addT (b o j : Nat) : (⟨b, o, none⟩ : Addr).add j = ⟨b, o + j, none⟩ := by
  by_cases h : j = 0 <;> simp [Addr.add, h]
set_option maxRecDepth 100000 in
set_option maxHeartbeats 16000000 in
theorem l26Rows_c (n : Nat) (l : List Mt) (a : Option Addr) (c : Nat) (w : World) (h : Row w a (flat mtRL.f l)) (hn : 2 ≤ n ∧ n ≤ 12) (hl : l.length ≤ 150) (hok : ∀ m ∈ l, m.ok (n : Int) = true) :
    Calls Try.prog 98 #[.int .i64 (n : Int), .slice a l.length c] w (RwRes w (rowsP n l)) := by
  obtain ⟨i0, hi, hz0, hz1, hz2⟩ := info_partsRw infoRw
  have HH := Lib.hid h
  have HOK := Lib.hid hok
  obtain ⟨hn0, hn1⟩ := hn
  clear h hok
  have HB0 := Lib.hid (below_alloc1 w (.cells #[] 84))
  have HO0 : Hid ((w.alloc (.cells #[] 84)).ownsRow w.heap.size 84 6 (.slice (some ⟨w.heap.size, 0, none⟩) 0 0) 0 (flat rwRL.f (rowsAt 0 l [] [] []))) := World.ownsRow_lit (base := w.heap.size) (e := 84) (size := 6) w #[] 0 (Nat.le_refl _) (Nat.zero_le _) rfl
  go_enter Try.func98, Try.ntmps98
  go_upto_region 3 with fail
  go_loopw [5, 6] (fun s i wr => ∃ (k : Nat) (ad : Option Addr) (c' : Nat), i = .int .i64 k ∧ s = .slice ad k c' ∧ k ≤ n ∧ Hid (wr.ownsRow w.heap.size 84 6 (.slice ad k c') k (flat rwRL.f (rowsAt k l [] [] []))) ∧ Hid (Below w.heap.size w wr)) (fun _ i _ => n - (intOf i).toNat)
  case atStart => exact ⟨0, _, _, rfl, rfl, Nat.zero_le _, HO0, HB0⟩
  case round =>
    clear HO0 HB0
    obtain ⟨k, ad, c', rfl, rfl, hk, HO, HB⟩ := hrel
    by_cases hlt : k < n
    · have hkI : (k : Int) < (n : Int) := by omega
      have HBX : Hid (BoxP wr.heap.size (Rw.cells ⟨(k : Int), 0, 0, 0, 0, 0⟩).toList (wr.alloc (.cells (Rw.cells ⟨(k : Int), 0, 0, 0, 0, 0⟩) 84))) := ((Fr.start wr).alloc (Rw.cells ⟨(k : Int), 0, 0, 0, 0, 0⟩) 84).at 0 rfl
      have HOWN : Hid ((wr.alloc (.cells (Rw.cells ⟨(k : Int), 0, 0, 0, 0, 0⟩) 84)).ownsRow w.heap.size 84 6 (.slice ad k c') k (flat rwRL.f (rowsAt k l [] [] []))) := own_below HO.out (below_alloc1 _ _) (Nat.le_refl _)
      have HBA : Hid (Below w.heap.size w (wr.alloc (.cells (Rw.cells ⟨(k : Int), 0, 0, 0, 0, 0⟩) 84))) := below_next HB.out (below_alloc1 _ _)
      clear HO HB
      go_wp2_with (at_builtin; refine wpList_append_own2 _ rfl _ _ 65 rfl w.heap.size 84 i0 (.agg #[.int .i64 0, .int .i64 0, .int .i64 0, .int .i64 0, .int .i64 0, .int .i64 0]) 6 48 Try.underlying65 hi hz0 hz1 hz2 rfl (by decide) (.slice ad k c') k (flat rwRL.f (rowsAt k l [] [] [])) rfl HOWN.out ⟨wr.heap.size, 0, none⟩ 1 1 (Rw.cells ⟨(k : Int), 0, 0, 0, 0, 0⟩).toList rfl rfl (fun j u hu => by rw [addr_addT, Nat.zero_add]; exact HBX.out j u hu) (by intro u hu; simp [Rw.cells] at hu; rcases hu with rfl | rfl <;> rfl) (by unfold maxLen; omega) (by omega) (HBA.out.size) ?_)
      intro ad5 c5 w5 ho5 hg5 hn5
      have HO5 : Hid (w5.ownsRow w.heap.size 84 6 (.slice ad5 (k + 1) c5) (k + 1) (flat rwRL.f (rowsAt (k + 1) l [] [] []))) := by
        unfold Hid
        rw [rowsAt_succ, flat_append, flat_one]
        exact ho5
      have HB5 := Lib.hid (below_grown HBA.out hg5 (fun q hq => (HOWN.out.lt q hq).1))
      clear ho5 hg5 hn5 HOWN HBX HBA
      go_wp2
      go_roundw
      case rel => exact ⟨k + 1, ad5, c5, by go_num, rfl, by omega, HO5, HB5⟩
      case measure => simp [intOf]; omega
    · have hkI : ¬ (k : Int) < (n : Int) := by omega
      have hnk : n = k := by omega
      subst hnk
      obtain ⟨g, rfl, hg1, hg2⟩ := own_lt_n HO.out (by omega)
      have hp : Pcs wr w.heap.size (rwRL.pcs (some ⟨g, 0, none⟩) c' (rowsAt n l [] [] [])) := rw_pcs (by rw [rowsAt_len]; exact HO.out)
      obtain ⟨hiW, hhi⟩ : ∃ x, x = wr.heap.size := ⟨_, rfl⟩
      have HST1 : Hid (PcsP w.heap.size hiW (rwRL.pcs (some ⟨g, 0, none⟩) c' (rowsAt n l (l.take 0) (l.take 0) [])) wr) := by
        unfold Hid
        rw [hhi]
        exact hp.mk'
      have HHI : Hid (w.heap.size ≤ g ∧ g < hiW) := ⟨hg1, by omega⟩
      clear hz0 hz1 hz2 hp HO hk hlt hkI hi hhi hg1 hg2
      go_wp2_with fail
      go_loopw [7] (fun i wr => ∃ (k : Nat), i = .int .i64 k ∧ k ≤ l.length ∧ Hid (PcsP w.heap.size hiW (rwRL.pcs (some ⟨g, 0, none⟩) c' (rowsAt n l (l.take k) (l.take k) [])) wr) ∧ Hid (Below w.heap.size w wr)) (fun i _ => l.length - (intOf i).toNat)
      case atStart => exact ⟨0, rfl, Nat.zero_le _, HST1, HB⟩
      case round =>
        clear HST1 HB
        obtain ⟨j, rfl, hj, HST, HB⟩ := hrel
        by_cases hlt : j < l.length
        · have hkI : (j : Int) < (l.length : Int) := by omega
          obtain ⟨b, off, ha, hb, s0, s1, s2, s3⟩ := mt_at HH.out (k := j) (x := l[j]) (by simp [hlt])
          have hv := HOK.out l[j] (List.getElem_mem hlt)
          have htk : l.take (j + 1) = l.take j ++ [l[j]] := List.take_succ_eq_append_getElem hlt
          obtain ⟨x, hx⟩ : ∃ x, x = l[j] := ⟨_, rfl⟩
          rw [← hx] at s0 s1 s2 s3 hv htk
          have HTK := Lib.hid htk
          clear hx htk
          obtain ⟨xa, xb, xs, xf⟩ := x
          obtain ⟨⟨v1, v2⟩, ⟨v3, v4⟩, v5, v6, v7⟩ := Mt.ok_parts hv
          dsimp only at s0 s1 s2 s3 v1 v2 v3 v4 v5 v6 v7
          obtain ⟨p, rfl⟩ : ∃ p : Nat, xa = (p : Int) := ⟨xa.toNat, by omega⟩
          obtain ⟨q, rfl⟩ : ∃ q : Nat, xb = (q : Int) := ⟨xb.toNat, by omega⟩
          have HV := Lib.hid hv
          have HAA := Lib.hid ha
          subst ha
          have hp' : p < n := by omega
          have hq' : q < n := by omega
          have hpI : (p : Int) < (n : Int) := by omega
          have hqI : (q : Int) < (n : Int) := by omega
          have hpq : ¬ p = q := by omega
          have hw2 : IntKind.i64.wrap (2 - xs) = 2 - xs := IntWalk.i64_in _ (by omega)
          have HKE : Hid (∀ V, Below w.heap.size w V → V.cell? ⟨b, off + j * 4, none⟩ = some (.int .i64 (p : Int)) ∧ V.cell? ⟨b, off + j * 4 + 1, none⟩ = some (.int .i64 (q : Int)) ∧ V.cell? ⟨b, off + j * 4 + 2, none⟩ = some (.int .i64 xs) ∧ V.cell? ⟨b, off + j * 4 + 3, none⟩ = some (.bool xf)) := fun V hV => ⟨(hV.cell (show (Addr.mk b (off + j * 4) none).block < _ from hb)).trans s0, (hV.cell (show (Addr.mk b (off + j * 4 + 1) none).block < _ from hb)).trans s1, (hV.cell (show (Addr.mk b (off + j * 4 + 2) none).block < _ from hb)).trans s2, (hV.cell (show (Addr.mk b (off + j * 4 + 3) none).block < _ from hb)).trans s3⟩
          have HBD := Lib.hid (fun z => row_bd (n := (n : Int)) (all := l) (l := l.take j) (k := l.take j) (j := []) HOK.out (fun m hm => HOK.out m (List.mem_of_mem_take hm)) (fun m hm => HOK.out m (List.mem_of_mem_take hm)) (fun m hm => by cases hm) hl (by simp; omega) (by simp; omega) (by simp) z)
          clear hv s0 s1 s2 s3
          have HC1 := Lib.hid (l26Count_c w.heap.size hiW g c' p _ _ xs xf wr.drew (HST.out.below (Below.refl _ _).drew) (rowsAt_get hp') ⟨v6, v7⟩ (by have := (HBD.out p).1; omega) (by have := (HBD.out p).2.1; omega) (by have := (HBD.out p).2.2.1; omega))
          clear v1 v2 v3 v4 v5 HST
          go_upto_region 10 with fail
          refine heldH (S := fun V => V.cell? ⟨b, off + j * 4, none⟩ = some (.int .i64 (p : Int)) ∧ V.cell? ⟨b, off + j * 4 + 1, none⟩ = some (.int .i64 (q : Int)) ∧ V.cell? ⟨b, off + j * 4 + 2, none⟩ = some (.int .i64 xs) ∧ V.cell? ⟨b, off + j * 4 + 3, none⟩ = some (.bool xf)) (n := 15) (listed := #[false, false, false, false, false, false, false, false, false, false, false, false, false, false, false]) (by kernel_rfl) (by rfl) (by rfl) ?_ (fun hHeld => ?_)
          (focus ((try dsimp only); (first | done | ((first | exact HK3.out | exact HKE.out _ HB.out.drew); done))))
          (refine takeH (i := 0) (v := ?_) (by decide +kernel) (by decide +kernel) (by kernel_rfl) (by rfl) (by exact fun _ _ _ h => h) (by rfl) ?_ (by assumption) ?_); rotate_left; (focus (intro w hSw; (try dsimp only at hSw); go_simp; (try with_reducible rfl); done)); (try simp only [Act.put, List.setIfInBounds_toArray, List.set_cons_zero, List.set_cons_succ])
          (refine takeH (i := 1) (v := ?_) (by decide +kernel) (by decide +kernel) (by kernel_rfl) (by rfl) (by exact fun _ _ _ h => h) (by rfl) ?_ (by assumption) ?_); rotate_left; (focus (intro w hSw; (try dsimp only at hSw); go_simp; (try with_reducible rfl); done)); (try simp only [Act.put, List.setIfInBounds_toArray, List.set_cons_zero, List.set_cons_succ])
          (refine takeH (i := 2) (v := ?_) (by decide +kernel) (by decide +kernel) (by kernel_rfl) (by rfl) (by exact fun _ _ _ h => h) (by rfl) ?_ (by assumption) ?_); rotate_left; (focus (intro w hSw; (try dsimp only at hSw); go_simp; (try with_reducible rfl); done)); (try simp only [Act.put, List.setIfInBounds_toArray, List.set_cons_zero, List.set_cons_succ])
          (refine takeH (i := 3) (v := ?_) (by decide +kernel) (by decide +kernel) (by kernel_rfl) (by rfl) (by exact fun _ _ _ h => h) (by rfl) ?_ (by assumption) ?_); rotate_left; (focus (intro w hSw; (try dsimp only at hSw); go_simp; (try with_reducible rfl); done)); (try simp only [Act.put, List.setIfInBounds_toArray, List.set_cons_zero, List.set_cons_succ])
          (refine takeH (i := 4) (v := ?_) (by decide +kernel) (by decide +kernel) (by kernel_rfl) (by rfl) (by exact fun _ _ _ h => h) (by rfl) ?_ (by assumption) ?_); rotate_left; (focus (intro w hSw; (try dsimp only at hSw); go_simp; (try with_reducible rfl); done)); (try simp only [Act.put, List.setIfInBounds_toArray, List.set_cons_zero, List.set_cons_succ])
          (refine takeH (i := 5) (v := ?_) (by decide +kernel) (by decide +kernel) (by kernel_rfl) (by rfl) (by exact fun _ _ _ h => h) (by rfl) ?_ (by assumption) ?_); rotate_left; (focus (intro w hSw; (try dsimp only at hSw); go_simp; (try with_reducible rfl); done)); (try simp only [Act.put, List.setIfInBounds_toArray, List.set_cons_zero, List.set_cons_succ])
          (refine takeH (i := 6) (v := ?_) (by decide +kernel) (by decide +kernel) (by kernel_rfl) (by rfl) (by exact fun _ _ _ h => h) (by rfl) ?_ (by assumption) ?_); rotate_left; (focus (intro w hSw; (try dsimp only at hSw); go_simp; (try with_reducible rfl); done)); (try simp only [Act.put, List.setIfInBounds_toArray, List.set_cons_zero, List.set_cons_succ])
          (refine takeH (i := 7) (v := ?_) (by decide +kernel) (by decide +kernel) (by kernel_rfl) (by rfl) (by exact fun _ _ _ h => h) (by rfl) ?_ (by assumption) ?_); rotate_left; (focus (intro w hSw; (try dsimp only at hSw); go_simp; (try with_reducible rfl); done)); (try simp only [Act.put, List.setIfInBounds_toArray, List.set_cons_zero, List.set_cons_succ])
          (refine takeH (i := 8) (v := ?_) (by decide +kernel) (by decide +kernel) (by kernel_rfl) (by rfl) (by exact fun _ _ _ h => h) (by rfl) ?_ (by assumption) ?_); rotate_left; (focus (intro w hSw; (try dsimp only at hSw); go_simp; (try with_reducible rfl); done)); (try simp only [Act.put, List.setIfInBounds_toArray, List.set_cons_zero, List.set_cons_succ])
          (refine takeH (i := 9) (v := ?_) (by decide +kernel) (by decide +kernel) (by kernel_rfl) (by rfl) (by exact fun _ _ _ h => h) (by rfl) ?_ (by assumption) ?_); rotate_left; (focus (intro w hSw; (try dsimp only at hSw); go_simp; (try with_reducible rfl); done)); (try simp only [Act.put, List.setIfInBounds_toArray, List.set_cons_zero, List.set_cons_succ])
          (refine takeH (i := 10) (v := ?_) (by decide +kernel) (by decide +kernel) (by kernel_rfl) (by rfl) (by exact fun _ _ _ h => h) (by rfl) ?_ (by assumption) ?_); rotate_left; (focus (intro w hSw; (try dsimp only at hSw); go_simp; (try with_reducible rfl); done)); (try simp only [Act.put, List.setIfInBounds_toArray, List.set_cons_zero, List.set_cons_succ])
          (refine takeH (i := 11) (v := ?_) (by decide +kernel) (by decide +kernel) (by kernel_rfl) (by rfl) (by exact fun _ _ _ h => h) (by rfl) ?_ (by assumption) ?_); rotate_left; (focus (intro w hSw; (try dsimp only at hSw); go_simp; (try with_reducible rfl); done)); (try simp only [Act.put, List.setIfInBounds_toArray, List.set_cons_zero, List.set_cons_succ])
          (refine takeH (i := 12) (v := ?_) (by decide +kernel) (by decide +kernel) (by kernel_rfl) (by rfl) (by exact fun _ _ _ h => h) (by rfl) ?_ (by assumption) ?_); rotate_left; (focus (intro w hSw; (try dsimp only at hSw); go_simp; (try with_reducible rfl); done)); (try simp only [Act.put, List.setIfInBounds_toArray, List.set_cons_zero, List.set_cons_succ])
          (refine takeH (i := 13) (v := ?_) (by decide +kernel) (by decide +kernel) (by kernel_rfl) (by rfl) (by exact fun _ _ _ h => h) (by rfl) ?_ (by assumption) ?_); rotate_left; (focus (intro w hSw; (try dsimp only at hSw); go_simp; (try with_reducible rfl); done)); (try simp only [Act.put, List.setIfInBounds_toArray, List.set_cons_zero, List.set_cons_succ])
          refine nextH (i := 14) (by decide +kernel) (by rfl) (by rfl) (fun K hK => ?_)
          (go_simp; go_at_call 146; (refine HC1.out.mono ?_); (rintro e w3 ⟨rfl, hp3, hc3⟩); (have HB3 := Lib.hid (hc3.below HB.out.drew (Nat.le_refl _))); (have HK3 := Lib.hid (HKE.out _ HB3.out)))
          refine hK.out _ _ ?_ (fun hHeld' => ?_)
          (focus ((try dsimp only); (first | done | ((first | exact HK3.out | exact HKE.out _ HB.out.drew); done))))
          clear hK K hHeld
          have hHeld := hHeld'
          clear hHeld'
          (try simp only [Act.put, List.setIfInBounds_toArray, List.set_cons_zero, List.set_cons_succ])
          refine wpAnyH_done (by decide +kernel) ?_ _
          clear hHeld HK3 HC1
          have hx3 : ((rowsAt n l (l.take j) (l.take j) []).set p (cntRw (rowOf l (l.take j) (l.take j) [] (p : Int)) xs xf))[q]? = some (rowOf l (l.take j) (l.take j) [] (q : Int)) := by rw [List.getElem?_set_ne hpq]; exact rowsAt_get hq'
          have HC2 := Lib.hid (l26Count_c w.heap.size hiW g c' q _ _ (2 - xs) xf w3.drew (hp3.below (Below.refl _ _).drew) hx3 (by omega) (by have := (HBD.out q).1; omega) (by have := (HBD.out q).2.1; omega) (by have := (HBD.out q).2.2.1; omega))
          clear hp3 hc3 hx3
          go_upto_region 11 with fail
          refine heldH (S := fun V => V.cell? ⟨b, off + j * 4, none⟩ = some (.int .i64 (p : Int)) ∧ V.cell? ⟨b, off + j * 4 + 1, none⟩ = some (.int .i64 (q : Int)) ∧ V.cell? ⟨b, off + j * 4 + 2, none⟩ = some (.int .i64 xs) ∧ V.cell? ⟨b, off + j * 4 + 3, none⟩ = some (.bool xf)) (n := 16) (listed := #[false, false, false, false, false, false, false, false, false, false, false, false, false, false, false, false]) (by kernel_rfl) (by rfl) (by rfl) ?_ (fun hHeld => ?_)
          (focus ((try dsimp only); (first | done | ((first | exact HK4.out | exact HKE.out _ HB3.out.drew); done))))
          (refine takeH (i := 0) (v := ?_) (by decide +kernel) (by decide +kernel) (by kernel_rfl) (by rfl) (by exact fun _ _ _ h => h) (by rfl) ?_ (by assumption) ?_); rotate_left; (focus (intro w hSw; (try dsimp only at hSw); go_simp; (try with_reducible rfl); done)); (try simp only [Act.put, List.setIfInBounds_toArray, List.set_cons_zero, List.set_cons_succ])
          (refine takeH (i := 1) (v := ?_) (by decide +kernel) (by decide +kernel) (by kernel_rfl) (by rfl) (by exact fun _ _ _ h => h) (by rfl) ?_ (by assumption) ?_); rotate_left; (focus (intro w hSw; (try dsimp only at hSw); go_simp; (try with_reducible rfl); done)); (try simp only [Act.put, List.setIfInBounds_toArray, List.set_cons_zero, List.set_cons_succ])
          (refine takeH (i := 2) (v := ?_) (by decide +kernel) (by decide +kernel) (by kernel_rfl) (by rfl) (by exact fun _ _ _ h => h) (by rfl) ?_ (by assumption) ?_); rotate_left; (focus (intro w hSw; (try dsimp only at hSw); go_simp; (try with_reducible rfl); done)); (try simp only [Act.put, List.setIfInBounds_toArray, List.set_cons_zero, List.set_cons_succ])
          (refine takeH (i := 3) (v := ?_) (by decide +kernel) (by decide +kernel) (by kernel_rfl) (by rfl) (by exact fun _ _ _ h => h) (by rfl) ?_ (by assumption) ?_); rotate_left; (focus (intro w hSw; (try dsimp only at hSw); go_simp; (try with_reducible rfl); done)); (try simp only [Act.put, List.setIfInBounds_toArray, List.set_cons_zero, List.set_cons_succ])
          (refine takeH (i := 4) (v := ?_) (by decide +kernel) (by decide +kernel) (by kernel_rfl) (by rfl) (by exact fun _ _ _ h => h) (by rfl) ?_ (by assumption) ?_); rotate_left; (focus (intro w hSw; (try dsimp only at hSw); go_simp; (try with_reducible rfl); done)); (try simp only [Act.put, List.setIfInBounds_toArray, List.set_cons_zero, List.set_cons_succ])
          (refine takeH (i := 5) (v := ?_) (by decide +kernel) (by decide +kernel) (by kernel_rfl) (by rfl) (by exact fun _ _ _ h => h) (by rfl) ?_ (by assumption) ?_); rotate_left; (focus (intro w hSw; (try dsimp only at hSw); go_simp; (try with_reducible rfl); done)); (try simp only [Act.put, List.setIfInBounds_toArray, List.set_cons_zero, List.set_cons_succ])
          (refine takeH (i := 6) (v := ?_) (by decide +kernel) (by decide +kernel) (by kernel_rfl) (by rfl) (by exact fun _ _ _ h => h) (by rfl) ?_ (by assumption) ?_); rotate_left; (focus (intro w hSw; (try dsimp only at hSw); go_simp; (try with_reducible rfl); done)); (try simp only [Act.put, List.setIfInBounds_toArray, List.set_cons_zero, List.set_cons_succ])
          (refine takeH (i := 7) (v := ?_) (by decide +kernel) (by decide +kernel) (by kernel_rfl) (by rfl) (by exact fun _ _ _ h => h) (by rfl) ?_ (by assumption) ?_); rotate_left; (focus (intro w hSw; (try dsimp only at hSw); go_simp; (try with_reducible rfl); done)); (try simp only [Act.put, List.setIfInBounds_toArray, List.set_cons_zero, List.set_cons_succ])
          (refine takeH (i := 8) (v := ?_) (by decide +kernel) (by decide +kernel) (by kernel_rfl) (by rfl) (by exact fun _ _ _ h => h) (by rfl) ?_ (by assumption) ?_); rotate_left; (focus (intro w hSw; (try dsimp only at hSw); go_simp; (try with_reducible rfl); done)); (try simp only [Act.put, List.setIfInBounds_toArray, List.set_cons_zero, List.set_cons_succ])
          (refine takeH (i := 9) (v := ?_) (by decide +kernel) (by decide +kernel) (by kernel_rfl) (by rfl) (by exact fun _ _ _ h => h) (by rfl) ?_ (by assumption) ?_); rotate_left; (focus (intro w hSw; (try dsimp only at hSw); go_simp; (try with_reducible rfl); done)); (try simp only [Act.put, List.setIfInBounds_toArray, List.set_cons_zero, List.set_cons_succ])
          (refine takeH (i := 10) (v := ?_) (by decide +kernel) (by decide +kernel) (by kernel_rfl) (by rfl) (by exact fun _ _ _ h => h) (by rfl) ?_ (by assumption) ?_); rotate_left; (focus (intro w hSw; (try dsimp only at hSw); go_simp; (try with_reducible rfl); done)); (try simp only [Act.put, List.setIfInBounds_toArray, List.set_cons_zero, List.set_cons_succ])
          (refine takeH (i := 11) (v := ?_) (by decide +kernel) (by decide +kernel) (by kernel_rfl) (by rfl) (by exact fun _ _ _ h => h) (by rfl) ?_ (by assumption) ?_); rotate_left; (focus (intro w hSw; (try dsimp only at hSw); go_simp; (try with_reducible rfl); done)); (try simp only [Act.put, List.setIfInBounds_toArray, List.set_cons_zero, List.set_cons_succ])
          (refine takeH (i := 12) (v := ?_) (by decide +kernel) (by decide +kernel) (by kernel_rfl) (by rfl) (by exact fun _ _ _ h => h) (by rfl) ?_ (by assumption) ?_); rotate_left; (focus (intro w hSw; (try dsimp only at hSw); go_simp; (try with_reducible rfl); done)); (try simp only [Act.put, List.setIfInBounds_toArray, List.set_cons_zero, List.set_cons_succ])
          (refine takeH (i := 13) (v := ?_) (by decide +kernel) (by decide +kernel) (by kernel_rfl) (by rfl) (by exact fun _ _ _ h => h) (by rfl) ?_ (by assumption) ?_); rotate_left; (focus (intro w hSw; (try dsimp only at hSw); go_simp; (try with_reducible rfl); done)); (try simp only [Act.put, List.setIfInBounds_toArray, List.set_cons_zero, List.set_cons_succ])
          (refine takeH (i := 14) (v := ?_) (by decide +kernel) (by decide +kernel) (by kernel_rfl) (by rfl) (by exact fun _ _ _ h => h) (by rfl) ?_ (by assumption) ?_); rotate_left; (focus (intro w hSw; (try dsimp only at hSw); go_simp; (try with_reducible rfl); done)); (try simp only [Act.put, List.setIfInBounds_toArray, List.set_cons_zero, List.set_cons_succ])
          refine nextH (i := 15) (by decide +kernel) (by rfl) (by rfl) (fun K hK => ?_)
          (go_simp; go_at_call 146; (refine HC2.out.mono ?_); (rintro e w4 ⟨rfl, hp4, hc4⟩); (have HB4 := Lib.hid (hc4.below HB3.out.drew (Nat.le_refl _))); (have HK4 := Lib.hid (HKE.out _ HB4.out)))
          refine hK.out _ _ ?_ (fun hHeld' => ?_)
          (focus ((try dsimp only); (first | done | ((first | exact HK4.out | exact HKE.out _ HB3.out.drew); done))))
          clear hK K hHeld
          have hHeld := hHeld'
          clear hHeld'
          (try simp only [Act.put, List.setIfInBounds_toArray, List.set_cons_zero, List.set_cons_succ])
          refine wpAnyH_done (by decide +kernel) ?_ _
          clear hHeld HK4 HC2
          have hfin := cnt_two (n := n) (all := l) (l := l.take j) (k := l.take j) (j := []) (m := ⟨(p : Int), (q : Int), xs, xf⟩) HV.out (p := p) (q := q) rfl rfl
          have H4 : Hid (PcsP w.heap.size hiW (rwRL.pcs (some ⟨g, 0, none⟩) c' (rowsAt n l (l.take (j + 1)) (l.take (j + 1)) [])) w4) := by
            unfold Hid
            rw [HTK.out, ← hfin]
            exact hp4
          clear hp4 hc4 hfin hw2 v6 v7
          go_wp2
          go_roundw
          case rel => exact ⟨j + 1, by go_num, by omega, H4, HB4⟩
          case measure => simp [intOf]; omega
        · have hkI : ¬ (j : Int) < (l.length : Int) := by omega
          have hst := HST.out
          rw [List.take_of_length_le (by omega)] at hst
          have HST2 : Hid (PcsP w.heap.size hiW (rwRL.pcs (some ⟨g, 0, none⟩) c' (rowsAt n l l l (l.take 0))) wr) := hst
          clear hst HST
          go_wp2_with fail
          go_loopw [9] (fun i wr => ∃ (k : Nat), i = .int .i64 k ∧ k ≤ l.length ∧ Hid (PcsP w.heap.size hiW (rwRL.pcs (some ⟨g, 0, none⟩) c' (rowsAt n l l l (l.take k))) wr) ∧ Hid (Below w.heap.size w wr)) (fun i _ => l.length - (intOf i).toNat)
          case atStart => exact ⟨0, rfl, Nat.zero_le _, HST2, HB⟩
          case round =>
            clear HST2 HB hj hlt hkI
            obtain ⟨j, rfl, hj, HST, HB⟩ := hrel
            by_cases hlt : j < l.length
            · have hkI : (j : Int) < (l.length : Int) := by omega
              obtain ⟨b, off, ha, hb, s0, s1, s2, s3⟩ := mt_at HH.out (k := j) (x := l[j]) (by simp [hlt])
              have hv := HOK.out l[j] (List.getElem_mem hlt)
              have htk : l.take (j + 1) = l.take j ++ [l[j]] := List.take_succ_eq_append_getElem hlt
              obtain ⟨x, hx⟩ : ∃ x, x = l[j] := ⟨_, rfl⟩
              rw [← hx] at s0 s1 s2 s3 hv htk
              have HTK := Lib.hid htk
              clear hx htk
              obtain ⟨xa, xb, xs, xf⟩ := x
              obtain ⟨⟨v1, v2⟩, ⟨v3, v4⟩, v5, v6, v7⟩ := Mt.ok_parts hv
              dsimp only at s0 s1 s2 s3 v1 v2 v3 v4 v5 v6 v7
              obtain ⟨p, rfl⟩ : ∃ p : Nat, xa = (p : Int) := ⟨xa.toNat, by omega⟩
              obtain ⟨q, rfl⟩ : ∃ q : Nat, xb = (q : Int) := ⟨xb.toNat, by omega⟩
              have HV := Lib.hid hv
              have HAA := Lib.hid ha
              subst ha
              have hp' : p < n := by omega
              have hq' : q < n := by omega
              have hpI : (p : Int) < (n : Int) := by omega
              have hqI : (q : Int) < (n : Int) := by omega
              have hpq : ¬ p = q := by omega
              have hw2 : IntKind.i64.wrap (2 - xs) = 2 - xs := IntWalk.i64_in _ (by omega)
              have HKE : Hid (∀ V, Below w.heap.size w V → V.cell? ⟨b, off + j * 4, none⟩ = some (.int .i64 (p : Int)) ∧ V.cell? ⟨b, off + j * 4 + 1, none⟩ = some (.int .i64 (q : Int)) ∧ V.cell? ⟨b, off + j * 4 + 2, none⟩ = some (.int .i64 xs) ∧ V.cell? ⟨b, off + j * 4 + 3, none⟩ = some (.bool xf)) := fun V hV => ⟨(hV.cell (show (Addr.mk b (off + j * 4) none).block < _ from hb)).trans s0, (hV.cell (show (Addr.mk b (off + j * 4 + 1) none).block < _ from hb)).trans s1, (hV.cell (show (Addr.mk b (off + j * 4 + 2) none).block < _ from hb)).trans s2, (hV.cell (show (Addr.mk b (off + j * 4 + 3) none).block < _ from hb)).trans s3⟩
              have HBD := Lib.hid (fun z => row_bd (n := (n : Int)) (all := l) (l := l) (k := l) (j := l.take j) HOK.out HOK.out HOK.out (fun m hm => HOK.out m (List.mem_of_mem_take hm)) hl hl hl (by simp; omega) z)
              clear hv s0 s1 s2 s3
              obtain ⟨m0, m1, m2, m3⟩ := HKE.out _ HB.out
              cases xf
              case true =>
                have H4 : Hid (PcsP w.heap.size hiW (rwRL.pcs (some ⟨g, 0, none⟩) c' (rowsAt n l l l (l.take (j + 1)))) wr) := by
                  unfold Hid
                  rw [HTK.out, ← ag_not (m := ⟨(p : Int), (q : Int), xs, true⟩) rfl]
                  exact HST.out
                clear v1 v2 v3 v4 v5 v6 v7 hw2
                go_wp2
                go_roundw
                case rel => exact ⟨j + 1, by go_num, by omega, H4, HB⟩
                case measure => simp [intOf]; omega
              have hLp : (rowsAt n l l l (l.take j))[p]? = some (rowOf l l l (l.take j) (p : Int)) := rowsAt_get hp'
              have hLq : (rowsAt n l l l (l.take j))[q]? = some (rowOf l l l (l.take j) (q : Int)) := rowsAt_get hq'
              have hbp := HBD.out p
              have hbq := HBD.out q
              have hfin := ag_two (n := n) (all := l) (l := l) (k := l) (j := l.take j) (m := ⟨(p : Int), (q : Int), xs, false⟩) HV.out rfl (p := p) (q := q) rfl rfl
              rw [← HTK.out] at hfin
              have e1 : ptsOf l (q : Int) = (rowOf l l l (l.take j) (q : Int)).points := rfl
              have e2 : ptsOf l (p : Int) = (rowOf l l l (l.take j) (p : Int)).points := rfl
              rw [e1, e2] at hfin
              obtain ⟨X, hX⟩ : ∃ X, X = rowOf l l l (l.take j) (p : Int) := ⟨_, rfl⟩
              obtain ⟨Y, hY⟩ : ∃ Y, Y = rowOf l l l (l.take j) (q : Int) := ⟨_, rfl⟩
              rw [← hX] at hLp hbp hfin
              rw [← hY] at hLq hbq hfin
              clear hX hY e1 e2 HBD
              obtain ⟨Xi, Xp, Xw, Xg, Xa, Xs⟩ := X
              obtain ⟨Yi, Yp, Yw, Yg, Ya, Ys⟩ := Y
              simp only at hbp hbq
              have hm1 : 0 ≤ Yp * xs ∧ Yp * xs ≤ 600 := by
                refine ⟨Int.mul_nonneg (by omega) (by omega), ?_⟩
                have : Yp * xs ≤ 300 * 2 := Int.mul_le_mul (by omega) (by omega) (by omega) (by omega)
                omega
              have hm2 : 0 ≤ Xp * (2 - xs) ∧ Xp * (2 - xs) ≤ 600 := by
                refine ⟨Int.mul_nonneg (by omega) (by omega), ?_⟩
                have : Xp * (2 - xs) ≤ 300 * 2 := Int.mul_le_mul (by omega) (by omega) (by omega) (by omega)
                omega
              obtain ⟨M1, hM1⟩ : ∃ M, M = Yp * xs := ⟨_, rfl⟩
              obtain ⟨M2, hM2⟩ : ∃ M, M = Xp * (2 - xs) := ⟨_, rfl⟩
              have wm1 : IntKind.i64.wrap (Yp * xs) = M1 := by rw [hM1]; exact IntWalk.i64_in _ (by omega)
              have wm2 : IntKind.i64.wrap (Xp * (2 - xs)) = M2 := by rw [hM2]; exact IntWalk.i64_in _ (by omega)
              have wa1 : IntKind.i64.wrap (Xa + Yp) = Xa + Yp := IntWalk.i64_in _ (by omega)
              have wa2 : IntKind.i64.wrap (Ya + Xp) = Ya + Xp := IntWalk.i64_in _ (by omega)
              have ws1 : IntKind.i64.wrap (Xs + M1) = Xs + M1 := IntWalk.i64_in _ (by omega)
              have ws2 : IntKind.i64.wrap (Ys + M2) = Ys + M2 := IntWalk.i64_in _ (by omega)
              have HFIN : Hid (((rowsAt n l l l (l.take j)).set p ⟨Xi, Xp, Xw, Xg, Xa + Yp, Xs + M1⟩).set q ⟨Yi, Yp, Yw, Yg, Ya + Xp, Ys + M2⟩ = rowsAt n l l l (l.take (j + 1))) := by unfold Hid; rw [hM1, hM2]; exact hfin
              clear hfin hM1 hM2 hm1 hm2 hbp hbq v1 v2 v3 v4 v5
              obtain ⟨R, hR⟩ : ∃ R, R = rowsAt n l l l (l.take j) := ⟨_, rfl⟩
              have hRn : R.length = n := by rw [hR, rowsAt_len]
              have HRN := Lib.hid hRn
              have hst := HST.out
              rw [← hR] at hst hLp hLq
              have HFIN2 : Hid ((R.set p ⟨Xi, Xp, Xw, Xg, Xa + Yp, Xs + M1⟩).set q ⟨Yi, Yp, Yw, Yg, Ya + Xp, Ys + M2⟩ = rowsAt n l l l (l.take (j + 1))) := by unfold Hid; rw [hR]; exact HFIN.out
              have hpR : p < R.length := by omega
              have hqR : q < R.length := by omega
              clear hR HFIN HST hRn
              have k1p : (R.set p ⟨Xi, Xp, Xw, Xg, Xa + Yp, Xs⟩)[p]? = some ⟨Xi, Xp, Xw, Xg, Xa + Yp, Xs⟩ := List.getElem?_set_self hpR
              have k1q : (R.set p ⟨Xi, Xp, Xw, Xg, Xa + Yp, Xs⟩)[q]? = some ⟨Yi, Yp, Yw, Yg, Ya, Ys⟩ := by rw [List.getElem?_set_ne hpq]; exact hLq
              have k2p : ((R.set p ⟨Xi, Xp, Xw, Xg, Xa + Yp, Xs⟩).set q ⟨Yi, Yp, Yw, Yg, Ya + Xp, Ys⟩)[p]? = some ⟨Xi, Xp, Xw, Xg, Xa + Yp, Xs⟩ := by rw [List.getElem?_set_ne (fun e => hpq e.symm)]; exact k1p
              have k2q : ((R.set p ⟨Xi, Xp, Xw, Xg, Xa + Yp, Xs⟩).set q ⟨Yi, Yp, Yw, Yg, Ya + Xp, Ys⟩)[q]? = some ⟨Yi, Yp, Yw, Yg, Ya + Xp, Ys⟩ := List.getElem?_set_self (by rw [List.length_set]; exact hqR)
              have e3 : ((R.set p ⟨Xi, Xp, Xw, Xg, Xa + Yp, Xs⟩).set q ⟨Yi, Yp, Yw, Yg, Ya + Xp, Ys⟩).set p ⟨Xi, Xp, Xw, Xg, Xa + Yp, Xs + M1⟩ = (R.set p ⟨Xi, Xp, Xw, Xg, Xa + Yp, Xs + M1⟩).set q ⟨Yi, Yp, Yw, Yg, Ya + Xp, Ys⟩ := by
                rw [List.set_comm _ _ (fun e => hpq e), List.set_set]; exact List.set_comm _ _ (fun e => hpq e.symm)
              have k3p : ((R.set p ⟨Xi, Xp, Xw, Xg, Xa + Yp, Xs + M1⟩).set q ⟨Yi, Yp, Yw, Yg, Ya + Xp, Ys⟩)[p]? = some ⟨Xi, Xp, Xw, Xg, Xa + Yp, Xs + M1⟩ := by rw [List.getElem?_set_ne (fun e => hpq e.symm)]; exact List.getElem?_set_self hpR
              have k3q : ((R.set p ⟨Xi, Xp, Xw, Xg, Xa + Yp, Xs + M1⟩).set q ⟨Yi, Yp, Yw, Yg, Ya + Xp, Ys⟩)[q]? = some ⟨Yi, Yp, Yw, Yg, Ya + Xp, Ys⟩ := List.getElem?_set_self (by rw [List.length_set]; exact hqR)
              have K1P := Lib.hid k1p
              have K1Q := Lib.hid k1q
              have K2P := Lib.hid k2p
              have K2Q := Lib.hid k2q
              have K3P := Lib.hid k3p
              have K3Q := Lib.hid k3q
              have E3 := Lib.hid e3
              have HLP := Lib.hid hLp
              have HLQ := Lib.hid hLq
              clear k1p k1q k2p k2q k3p k3q e3 hLp hLq hpR hqR
              obtain ⟨x0, x1, x2, x3, x4, x5⟩ := rw_cells hst HLP.out
              obtain ⟨y0, y1, y2, y3, y4, y5⟩ := rw_cells hst HLQ.out
              simp only at x0 x1 x2 x3 x4 x5 y0 y1 y2 y3 y4 y5
              have gf := fun o => (RL.main hst).frozenAt o
              have hgl : g < wr.heap.size := World.block_lt_of_cell? _ _ x0
              obtain ⟨st1, cg1⟩ := rw_field hst (i := 4) (v := .int .i64 (Xa + Yp)) (x' := ⟨Xi, Xp, Xw, Xg, Xa + Yp, Xs⟩) HLP.out (by decide) rfl
              obtain ⟨U1, hU⟩ : ∃ W, W = (wr.setCell ⟨g, p * 6 + 4, none⟩ (.int .i64 (Xa + Yp))).drew := ⟨_, rfl⟩
              have st1' := st1.below (Below.refl _ _).drew
              have cg1' := cg1.trans (Chg.ofBelow (Below.refl _ _).drew)
              rw [← hU] at st1' cg1'
              have HU := Lib.hid hU
              have HST1 := Lib.hid st1'
              have HBU1 := Lib.hid (cg1'.below HB.out (Nat.le_refl _))
              clear hU st1 cg1 st1' cg1'
              go_upto_region 19 with fail
              go_region
              go_upto_region 20 with fail
              rw [← HU.out]
              clear HU x0 x1 x2 x3 x4 x5 y0 y1 y2 y3 y4 y5 gf hgl m0 m1 m2 m3
              obtain ⟨m0, m1, m2, m3⟩ := HKE.out _ HBU1.out
              have hst1 := HST1.out
              obtain ⟨x0, x1, x2, x3, x4, x5⟩ := rw_cells hst1 K1P.out
              obtain ⟨y0, y1, y2, y3, y4, y5⟩ := rw_cells hst1 K1Q.out
              simp only at x0 x1 x2 x3 x4 x5 y0 y1 y2 y3 y4 y5
              have gf := fun o => (RL.main hst1).frozenAt o
              have hgl : g < U1.heap.size := World.block_lt_of_cell? _ _ x0
              obtain ⟨st2, cg2⟩ := rw_field hst1 (i := 4) (v := .int .i64 (Ya + Xp)) (x' := ⟨Yi, Yp, Yw, Yg, Ya + Xp, Ys⟩) K1Q.out (by decide) rfl
              obtain ⟨U2, hU⟩ : ∃ W, W = (U1.setCell ⟨g, q * 6 + 4, none⟩ (.int .i64 (Ya + Xp))).drew := ⟨_, rfl⟩
              have st2' := st2.below (Below.refl _ _).drew
              have cg2' := cg2.trans (Chg.ofBelow (Below.refl _ _).drew)
              rw [← hU] at st2' cg2'
              have HU := Lib.hid hU
              have HST2 := Lib.hid st2'
              have HBU2 := Lib.hid (cg2'.below HBU1.out (Nat.le_refl _))
              clear hU st2 cg2 st2' cg2'
              go_region
              go_upto_region 21 with fail
              rw [← HU.out]
              clear HU x0 x1 x2 x3 x4 x5 y0 y1 y2 y3 y4 y5 gf hgl m0 m1 m2 m3
              obtain ⟨m0, m1, m2, m3⟩ := HKE.out _ HBU2.out
              have hst2 := HST2.out
              obtain ⟨x0, x1, x2, x3, x4, x5⟩ := rw_cells hst2 K2P.out
              obtain ⟨y0, y1, y2, y3, y4, y5⟩ := rw_cells hst2 K2Q.out
              simp only at x0 x1 x2 x3 x4 x5 y0 y1 y2 y3 y4 y5
              have gf := fun o => (RL.main hst2).frozenAt o
              have hgl : g < U2.heap.size := World.block_lt_of_cell? _ _ x0
              obtain ⟨st3, cg3⟩ := rw_field hst2 (i := 5) (v := .int .i64 (Xs + M1)) (x' := ⟨Xi, Xp, Xw, Xg, Xa + Yp, Xs + M1⟩) K2P.out (by decide) rfl
              obtain ⟨U3, hU⟩ : ∃ W, W = (U2.setCell ⟨g, p * 6 + 5, none⟩ (.int .i64 (Xs + M1))).drew := ⟨_, rfl⟩
              have st3' := st3.below (Below.refl _ _).drew
              have cg3' := cg3.trans (Chg.ofBelow (Below.refl _ _).drew)
              rw [← hU] at st3' cg3'
              have HU := Lib.hid hU
              have HST3 := Lib.hid st3'
              have HBU3 := Lib.hid (cg3'.below HBU2.out (Nat.le_refl _))
              clear hU st3 cg3 st3' cg3'
              go_region
              go_upto_region 22 with fail
              rw [← HU.out]
              clear HU x0 x1 x2 x3 x4 x5 y0 y1 y2 y3 y4 y5 gf hgl m0 m1 m2 m3
              obtain ⟨m0, m1, m2, m3⟩ := HKE.out _ HBU3.out
              have hst3 := HST3.out
              rw [E3.out] at hst3
              obtain ⟨x0, x1, x2, x3, x4, x5⟩ := rw_cells hst3 K3P.out
              obtain ⟨y0, y1, y2, y3, y4, y5⟩ := rw_cells hst3 K3Q.out
              simp only at x0 x1 x2 x3 x4 x5 y0 y1 y2 y3 y4 y5
              have gf := fun o => (RL.main hst3).frozenAt o
              have hgl : g < U3.heap.size := World.block_lt_of_cell? _ _ x0
              obtain ⟨st4, cg4⟩ := rw_field hst3 (i := 5) (v := .int .i64 (Ys + M2)) (x' := ⟨Yi, Yp, Yw, Yg, Ya + Xp, Ys + M2⟩) K3Q.out (by decide) rfl
              obtain ⟨U4, hU⟩ : ∃ W, W = (U3.setCell ⟨g, q * 6 + 5, none⟩ (.int .i64 (Ys + M2))).drew := ⟨_, rfl⟩
              have st4' := st4.below (Below.refl _ _).drew
              have cg4' := cg4.trans (Chg.ofBelow (Below.refl _ _).drew)
              rw [← hU] at st4' cg4'
              have HU := Lib.hid hU
              have HST4 := Lib.hid st4'
              have HBU4 := Lib.hid (cg4'.below HBU3.out (Nat.le_refl _))
              clear hU st4 cg4 st4' cg4'
              have H4 : Hid (PcsP w.heap.size hiW (rwRL.pcs (some ⟨g, 0, none⟩) c' (rowsAt n l l l (l.take (j + 1)))) U4) := by
                unfold Hid
                have := HST4.out
                rw [List.set_set, HFIN2.out] at this
                exact this
              go_region
              go_wp2
              rw [← HU.out]
              go_roundw
              case rel => exact ⟨j + 1, by go_num, by omega, H4, HBU4⟩
              case measure => simp [intOf]; omega
            · have hkI : ¬ (j : Int) < (l.length : Int) := by omega
              have hst := HST.out
              rw [List.take_of_length_le (by omega)] at hst
              have HE := Lib.hid (And.intro hst.1 HB.out)
              clear hst HST
              go_wp2
              go_ret
              refine ⟨some ⟨g, 0, none⟩, c', ?_, HE.out.1, HE.out.2⟩
              rw [rowsP, rowsAt_len]
              rfl

end Go.Proofs.Ytbjgigdkbjabaaa
