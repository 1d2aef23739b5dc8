/- Cap4: captures are taken: the program's function. The contract holds for every argument, under the premises that it states. -/
import Derived.Test.YtbjgigdkbjabaaaCap3
import Derived.Test.YtbjgigdkbjabaaaStored
import Derived.Deep.CutRange
import Derived.StillTailTactics
import Derived.Deep.RegionLaw
namespace Go.Proofs.Ytbjgigdkbjabaaa
set_option linter.unusedSimpArgs false
set_option linter.unusedVariables false
set_option linter.unnecessarySimpa false
open Go.RowKit Go.ChangeShapes Go.WideShapes Go.ChangeAt Go.Joins

theorem zeroP_succ (P l : List Int) {j : Nat} (h : j < l.length) : zeroP P (l.take (j + 1)) = (zeroP P (l.take j)).set l[j].toNat 0 := by
  rw [List.take_add_one, List.getElem?_eq_getElem h, Option.toList, zeroP_append]
  rfl
theorem not_mem_take {l : List Int} (h : l.Nodup) {j : Nat} (hj : j < l.length) : l[j] ∉ l.take j := fun hm => by
  obtain ⟨i, hi, he⟩ := List.mem_take_iff_getElem.1 hm
  have h1 : i < j := by omega
  exact absurd he (List.pairwise_iff_getElem.1 h i j (by omega) hj h1)
/-- a row whose block is known lies higher -/
theorem own_move {w : World} {base lo n size : Nat} {e : TypeId} {v : Value} {vs : List Value} (h : w.ownsRow base e size v n vs) (hl : ∀ k, v.ownBlock = some k → lo ≤ k) : w.ownsRow lo e size v n vs := by
  obtain ⟨h1, h2 | ⟨g, cap, cur, hv, hb, r⟩⟩ := h
  · exact ⟨h1, .inl h2⟩
  · exact ⟨h1, .inr ⟨g, cap, cur, hv, hl g (by rw [hv]; rfl), r⟩⟩
/-- what is sown, with the captures taken -/
def TakeRes (w : World) (P S : List Int) (last laps : Int) (e : Ending) (w' : World) : Prop := ∃ pa pc sa sc, e = .returned (snV P S last laps pa pc sa sc) ∧ POwn w' w.heap.size ⟨P, S, 0⟩ pa pc sa sc ∧ Below w.heap.size w w'
set_option maxRecDepth 100000 in
set_option maxHeartbeats 8000000 in
theorem takeCaptures_c (r : R) (hb : r.Bd) (pn : Nat) (hp : pn ≤ 1) (P S : List Int) (last laps : Int) (pa sa : Option Addr) (pc sc : Nat) (w : World) (hP : Ints w pa P) (hS : Ints w sa S) (hlen : (P.length : Int) = 2 * r.pits) (hsl : S.length = 2) (hpo : PlaceOk r last) (ha : allIn P = true) (hbs : bdL S 96) (hc : P.length ≤ pc) (hcm : pc ≤ maxLen) :
    Calls Try.prog 187 #[r.val, snV P S last laps pa pc sa sc, .int .i64 (pn : Int)] w (TakeRes w (takeP r pn P S last).1 (takeP r pn P S last).2 last laps) := by
  have hbd : bdL P 96 := fun n hn => allIn_get ha hn
  have hlo := hb.lo
  have hhi := hb.hi
  obtain ⟨l, hl⟩ : ∃ l, l = capP r pn P last := ⟨_, rfl⟩
  obtain ⟨⟨lok, lnd⟩, llen⟩ := capP_ok hb pn P last hlen hpo
  rw [← hl] at lok lnd llen
  have HTK := Lib.hid (fun W (H : Ints W pa P) => hl ▸ captured_c r hb pn hp P S last laps pa sa pc sc W H hlen hpo ha hc hcm : ∀ W, Ints W pa P → Calls Try.prog 124 #[r.val, snV P S last laps pa pc sa sc, .int .i64 (pn : Int)] W (IntsRes W l))
  have HRES : Hid ((takeP r pn P S last).1 = zeroP P l ∧ (takeP r pn P S last).2 = S.set pn (S.getD pn 0 + gainP P l)) := by
    unfold Hid takeP; rw [← hl]; simp
  have m1 : P.length ≤ 16777216 := by omega
  have m2 : S.length ≤ 16777216 := by omega
  have lP : 0 < P.length := by omega
  have lS : 0 < S.length := by omega
  have F0 := (((Fr.start w).alloc r.cells 33).alloc (snC P S last laps pa pc sa sc) 148).allocF #[.slice none 0 0, .slice none 0 0, .int .i64 0, .int .i64 0] 148
  simp only [World.size_alloc] at F0
  have HHP := Lib.hid hP
  have HHS := Lib.hid hS
  have HSL := Lib.hid hsl
  have HLN := Lib.hid hlen
  clear hl hP hS hsl hlen hpo
  go_enter Try.func187, Try.ntmps187
  go_wp2_with fail
  refine (HTK.out _ (HHP.out.below F0.below (Nat.le_refl _))).mono ?_
  rintro e w1 ⟨la, lc, rfl, hol, hb1⟩
  have F1 := (F0.step hb1).own hol
  simp only [World.size_alloc] at F1
  obtain ⟨s0, s1, s2, s3⟩ := (⟨F1.at 2 rfl 0 _ rfl, F1.at 2 rfl 1 _ rfl, F1.at 2 rfl 2 _ rfl, F1.at 2 rfl 3 _ rfl⟩ : _ ∧ _ ∧ _ ∧ _)
  have zB : w.heap.size + 1 < w1.heap.size := F1.le 2 rfl
  have zC : w.heap.size + 1 + 1 < w1.heap.size := F1.le 1 rfl
  have hfs : ∀ o, w1.frozen? ⟨w.heap.size + 1, o, none⟩ = false := fun o => ((bcell hb1).2 _ o (by simp)).trans (by simp [go_sem])
  clear F0 hb1 hol
  go_upto_region 2 with fail
  go_cut [] from 14 to 21 (fun wx => ∃ pg qc sg tc, SnI (w.heap.size + 1) wx (w.heap.size + 1) 0 pg qc sg tc P S ∧ Fld wx (w.heap.size + 1) 0 last laps ∧ w1.heap.size ≤ pg ∧ w1.heap.size ≤ sg ∧ Chg (w.heap.size + 1) (w.heap.size + 1 + 1) w1 wx)
  case first =>
    go_region_law (first
      | (go_simp; go_at_call 110; have tk := hb2; refine (copyNumbers_c sa sc S _ (HHS.out.below ((F1.below.drew).trans (hb2.mono F1.below.size)) (Nat.le_refl _)) m2).mono ?_; rintro e w3 ⟨sa', sc', rfl, ho3, hb3⟩; have y0 : w3.cell? ⟨w.heap.size + 1, 0, none⟩ = some (.slice pa P.length pc) := (((bcell hb3).1 _ _ z2a).trans (((bcell hb2).1 _ _ (by simpa using zB)).trans s0)); have y1 : w3.cell? ⟨w.heap.size + 1, 1, none⟩ = some (.slice sa S.length sc) := (((bcell hb3).1 _ _ z2a).trans x1); have yf : ∀ o, w3.frozen? ⟨w.heap.size + 1, o, none⟩ = false := (fun o => ((bcell hb3).2 _ o z2a).trans (((bcell hb2).2 _ o (by simpa using zB)).trans (hfs o))); have z3a : w.heap.size + 1 < w3.heap.size := (by have := hb3.size; omega))
      | (go_simp; go_at_call 110; refine (copyNumbers_c pa pc P _ (HHP.out.below F1.below.drew (Nat.le_refl _)) m1).mono ?_; rintro e w2 ⟨pa', pc', rfl, ho2, hb2⟩; have x1 : w2.cell? ⟨w.heap.size + 1, 1, none⟩ = some (.slice sa S.length sc) := (((bcell hb2).1 _ _ (by simpa using zB)).trans s1); have z2a : w.heap.size + 1 < w2.heap.size := (by have := hb2.size; simp at this; omega)))
    all_goals (go_wp2_with fail)
    all_goals go_meet
    all_goals
      have BX : Below w1.heap.size w1 w3 := below_next (below_next (Below.refl w1.heap.size w1).drew hb2) hb3
      have h12 : ∀ k, k < w2.heap.size → w3.heap[k]? = w2.heap[k]? := fun k hk => hb3.block k hk
      simp only [World.size_drew] at ho2
      have sz2 : w1.heap.size ≤ w2.heap.size := by have := hb2.size; simpa using this
      have sz3 : w2.heap.size ≤ w3.heap.size := hb3.size
      obtain ⟨pg, rfl, hp1, hp2⟩ := own_lt_n ho2 lP
      obtain ⟨sg, rfl, hs1, hs2⟩ := own_lt_n ho3 lS
      have y2 : w3.cell? ⟨w.heap.size + 1, 2, none⟩ = some (.int .i64 last) := (BX.cell (show (Addr.mk (w.heap.size + 1) 2 none).block < _ from zB)).trans s2
      have y3 : w3.cell? ⟨w.heap.size + 1, 3, none⟩ = some (.int .i64 laps) := (BX.cell (show (Addr.mk (w.heap.size + 1) 3 none).block < _ from zB)).trans s3
      refine ⟨pg, pc', sg, sc', two_rows ho2 ho3 h12 (fun k hk hn => ?_) (by omega) (by omega) (by omega) (by omega) (by omega) (by omega) ?_ ?_, ⟨?_, ?_, ?_⟩, hp1, by omega, (Chg.ofBelow BX).trans ((chg_set _ _ _ _).trans (chg_set _ _ _ _))⟩
      · rw [Below.heap_setCell _ _ _ k hn, Below.heap_setCell _ _ _ k hn]
      · rw [cell_off (by omega)]; exact World.cell?_setCell_same _ _ _ y0
      · refine World.cell?_setCell_same _ _ (u := .slice sa S.length sc) _ ?_
        rw [cell_off (by omega)]; exact y1
      · rw [cell_off (by omega), cell_off (by omega)]; exact y2
      · rw [cell_off (by omega), cell_off (by omega)]; exact y3
      · intro o; simpa using yf o
  case rest =>
    obtain ⟨pg, qc, sg, tc, hsn, hfl, hpg, hsg, hchg⟩ := hcut
    have F2 := F1.chgAt 2 hchg (by omega) (by simp [List.eraseIdx])
    obtain ⟨hi1, hhi1⟩ : ∃ n, n = w1.heap.size := ⟨_, rfl⟩
    have F2' : Fr w wc [⟨w.heap.size + 1 + 1 + 1, hi1, RowP (w.heap.size + 1 + 1 + 1) hi1 la lc l⟩, ⟨w.heap.size + 1 + 1, w.heap.size + 1 + 1 + 1, BoxF (w.heap.size + 1 + 1) (#[.slice none 0 0, .slice none 0 0, .int .i64 0, .int .i64 0] : Array Value).toList⟩, ⟨w.heap.size, w.heap.size + 1, BoxP w.heap.size r.cells.toList⟩] := by rw [hhi1]; exact F2
    rw [← hhi1] at hpg hsg
    have h13 : w.heap.size + 1 + 1 < hi1 := by omega
    have HSN := Lib.hid (⟨hsn, hfl⟩ : _ ∧ _)
    obtain ⟨a0, ha0⟩ : ∃ a0, a0 = S.getD pn 0 := ⟨_, rfl⟩
    have ha0b : 0 ≤ a0 ∧ a0 ≤ 96 := by rw [ha0]; exact getD_bd hbs (by omega) pn
    obtain ⟨a0l, a0h⟩ := ha0b
    have HS0 : Hid (S = S.set pn (a0 + gainP P (l.take 0))) := by
      have h1 : pn < S.length := by have := HSL.out; omega
      unfold Hid
      rw [ha0]
      simp [gainP, h1]
    rw [← ha0] at HRES
    clear hsn hfl hchg F1 F2 hhi1 s0 s1 s2 s3 zB zC hfs ha0
    go_wp2
    go_loopw [24] (fun i wr => ∃ k : Nat, k ≤ l.length ∧ i = .int .i64 k ∧ SnI (w.heap.size + 1) wr (w.heap.size + 1) 0 pg qc sg tc (zeroP P (l.take k)) (S.set pn (a0 + gainP P (l.take k))) ∧ Fld wr (w.heap.size + 1) 0 last laps ∧
        Fr w wr [⟨w.heap.size + 1 + 1 + 1, hi1, RowP (w.heap.size + 1 + 1 + 1) hi1 la lc l⟩, ⟨w.heap.size + 1 + 1, w.heap.size + 1 + 1 + 1, BoxF (w.heap.size + 1 + 1) (#[.slice none 0 0, .slice none 0 0, .int .i64 0, .int .i64 0] : Array Value).toList⟩, ⟨w.heap.size, w.heap.size + 1, BoxP w.heap.size r.cells.toList⟩]) (fun i _ => l.length - (intOf i).toNat)
    case atStart => exact ⟨0, Nat.zero_le _, rfl, by rw [← HS0.out]; exact HSN.out.1, HSN.out.2, F2'⟩
    case round =>
      clear F2' HSN HS0
      obtain ⟨k, hk, rfl, hsn, hfl, F⟩ := hrel
      obtain ⟨g0, g1⟩ := gainP_bd hbd (by omega) (l.take k)
      have glen : (l.take k).length ≤ 16 := by simp; omega
      have g2 : gainP P (l.take k) ≤ 96 * 16 := by omega
      obtain ⟨a, haa⟩ : ∃ a, a = a0 + gainP P (l.take k) := ⟨_, rfl⟩
      have hal : 0 ≤ a := by omega
      have hah : a ≤ 96 * 17 := by omega
      rw [← haa] at hsn
      by_cases hlt : k < l.length
      · have hSC := Lib.hid (gainP_succ P l hlt)
        have hZC := Lib.hid (zeroP_succ P l hlt)
        have hnm := not_mem_take lnd hlt
        obtain ⟨hx0, hx1⟩ := lok l[k] (List.getElem_mem hlt)
        have hzg := zeroP_get (l.take k) P l[k] hx0 hnm (fun j hj => (lok j (List.mem_of_mem_take hj)).1)
        obtain ⟨x, hx⟩ : ∃ x : Nat, l[k] = x := ⟨l[k].toNat, by omega⟩
        have hxl : x < P.length := by omega
        rw [hx] at hSC hZC hzg
        simp only [Int.toNat_natCast] at hSC hZC hzg
        obtain ⟨Z, hZ⟩ : ∃ Z, Z = zeroP P (l.take k) := ⟨_, rfl⟩
        have hZl : Z.length = P.length := by rw [hZ]; exact zeroP_length _ _
        have hxZ : x < Z.length := by omega
        rw [← hZ] at hsn hZC hzg
        obtain ⟨v, hv⟩ : ∃ v, v = Z[x] := ⟨_, rfl⟩
        have hvP : P.getD x 0 = v := by rw [← hzg, hv]; simp [hxZ]
        have hvb : 0 ≤ v ∧ v ≤ 96 := by rw [← hvP]; exact getD_bd hbd (by omega) x
        obtain ⟨v0, v9⟩ := hvb
        rw [hvP] at hSC
        have hsl : pn < (S.set pn a).length := by have := HSL.out; simp; omega
        have hrow : Ints wr la l := own_row (F.at 0 rfl).1
        obtain ⟨b', o', rfl, hb', hcl⟩ := Ints.open hrow (by omega)
        have hcx := hcl k hlt
        rw [hx] at hcx
        have e0 := hsn.c0
        have e1 := hsn.c1
        simp only [Nat.zero_add] at e1
        have es : wr.cell? ⟨sg, pn, none⟩ = some (.int .i64 a) := by
          rw [hsn.os.cellAt pn (by omega)]
          have h1 : pn < S.length := by have := HSL.out; omega
          simp [h1]
        have ep : wr.cell? ⟨pg, x, none⟩ = some (.int .i64 v) := by rw [hsn.op.cellAt x (by omega), hv]; simp [hxZ]
        have fs := hsn.os.frozenAt pn
        have fp := hsn.op.frozenAt x
        have n1 := hsn.n1
        have n2 := hsn.n2
        have n3 := hsn.n3
        have n1' : ¬ sg = pg := fun e => n1 e.symm
        have n2' : ¬ w.heap.size + 1 = pg := fun e => n2 e.symm
        have n3' : ¬ w.heap.size + 1 = sg := fun e => n3 e.symm
        have HSN := Lib.hid (⟨hsn, hfl⟩ : _ ∧ _)
        have HF := Lib.hid F
        have HAA := Lib.hid haa
        have hslen : pn < S.length := by have := HSL.out; omega
        have hslI : (pn : Int) < (S.length : Int) := by omega
        have hxZI : (x : Int) < (Z.length : Int) := by omega
        clear hcl hrow hx hv hvP hzg hnm hx0 hx1 g0 g1 hZ hsn hfl F haa
        go_upto_region 6 with fail
        go_still_tail 12, (by kernel_rfl)
        change wpList _ _ _ _ _ wr.drew
        have D : Below wr.heap.size wr wr.drew := (Below.refl _ _).drew
        have HSD := Lib.hid (⟨HSN.out.1.below D, HSN.out.2.below D, HF.out.drew⟩ : _ ∧ _ ∧ _)
        have e0d : wr.drew.cell? ⟨w.heap.size + 1, 0, none⟩ = _ := e0
        have esd : wr.drew.cell? ⟨sg, pn, none⟩ = _ := es
        have epd : wr.drew.cell? ⟨pg, x, none⟩ = _ := ep
        have fsd : wr.drew.frozen? ⟨sg, pn, none⟩ = _ := fs
        have fpd : wr.drew.frozen? ⟨pg, x, none⟩ = _ := fp
        clear e0 e1 es ep fs fp hcx D
        generalize wr.drew = wd at *
        go_wp2
        go_roundw
        case rel =>
          obtain ⟨hsd, hfd, Fd⟩ := HSD.out
          refine ⟨k + 1, by omega, by go_num, ?_, ?_, ?_⟩
          · have h1 := (hsd.sto pn (a + v)).pit x 0
            rw [List.set_set] at h1
            rw [hZC.out, hSC.out, ← Int.add_assoc, ← HAA.out]
            exact h1
          · exact (hfd.other n3' _).other n2' _
          · exact (Fd.chg0 (chg_set _ sg pn _) (by omega) (by simp; omega)).chg0 (chg_set _ pg x _) (by omega) (by simp; omega)
        case measure => simp [intOf]; omega
      · have he : l.take k = l := List.take_of_length_le (by omega)
        rw [he] at hsn haa
        have hres : (takeP r pn P S last).1 = zeroP P l ∧ (takeP r pn P S last).2 = S.set pn a := by
          rw [haa]; exact HRES.out
        obtain ⟨Z, hZ⟩ : ∃ Z, Z = zeroP P l := ⟨_, rfl⟩
        obtain ⟨T, hT⟩ : ∃ T, T = S.set pn a := ⟨_, rfl⟩
        rw [← hZ, ← hT] at hres hsn
        have HR2 := Lib.hid hres
        have k0 := hsn.c0
        have k1 := hsn.c1
        obtain ⟨k2, k3, kz⟩ := hfl
        simp only [Nat.zero_add] at k1 k2 k3
        obtain ⟨bx, bf⟩ := F.at 1 rfl
        obtain ⟨x0, x1, x2, x3⟩ := (⟨bx 0 _ rfl, bx 1 _ rfl, bx 2 _ rfl, bx 3 _ rfl⟩ : _ ∧ _ ∧ _ ∧ _)
        have HS := Lib.hid hsn
        have BW := F.below
        clear hsn he hres hZ hT haa g0 g1 bx kz
        go_wp2_with fail
        refine bodyPost_ret (v := snV Z T last laps (some ⟨pg, 0, none⟩) qc (some ⟨sg, 0, none⟩) tc) (by simp [results, Try.results187, go_sem, x0, x1, x2, x3, bf]) rfl ?_
        rw [HR2.out.1, HR2.out.2]
        refine ⟨some ⟨pg, 0, none⟩, qc, some ⟨sg, 0, none⟩, tc, rfl, ⟨?_, ?_, .inr (by simp [Value.ownBlock]; exact HS.out.n1)⟩, ?_⟩
        · have h1 := own_move HS.out.op (lo := hi1) (by simp [Value.ownBlock]; exact hpg)
          refine ownsRow_le (base := hi1) ?_ (by omega)
          repeat (first | (with_reducible exact h1) | ((with_reducible refine ownsRow_setCell_below ?_ ?_ _); rotate_left; (simp <;> omega)))
        · have h1 := own_move HS.out.os (lo := hi1) (by simp [Value.ownBlock]; exact hsg)
          refine ownsRow_le (base := hi1) ?_ (by omega)
          repeat (first | (with_reducible exact h1) | ((with_reducible refine ownsRow_setCell_below ?_ ?_ _); rotate_left; (simp <;> omega)))
        · repeat (first | (with_reducible exact BW) | ((with_reducible refine Below.setCell ?_ ?_ _); rotate_left; (simp <;> omega)))

end Go.Proofs.Ytbjgigdkbjabaaa
