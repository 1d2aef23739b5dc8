/- SCap1: captures: the reference's small functions. Each contract holds for every argument, under the premises that it states. -/
import Derived.Test.YtbjgigdkbjabaaaCap3
namespace Go.Proofs.Ytbjgigdkbjabaaa
set_option linter.unusedSimpArgs false
set_option linter.unusedVariables false
set_option linter.unnecessarySimpa false
open Go.RowKit Go.ChangeShapes Go.WideShapes Go.ChangeAt Go.Joins

/-- what is sown, in memory -/
structure SnA (w : World) (b o : Nat) (P S : List Int) (last laps : Int) (pa : Option Addr) (pc : Nat) (sa : Option Addr) (sc : Nat) : Prop where
  c0 : w.cell? ⟨b, o, none⟩ = some (.slice pa P.length pc)
  c1 : w.cell? ⟨b, o + 1, none⟩ = some (.slice sa S.length sc)
  c2 : w.cell? ⟨b, o + 2, none⟩ = some (.int .i64 last)
  c3 : w.cell? ⟨b, o + 3, none⟩ = some (.int .i64 laps)
theorem SnA.below {B : Nat} {w w' : World} {b o : Nat} {P S : List Int} {last laps : Int} {pa sa : Option Addr} {pc sc : Nat} (h : SnA w b o P S last laps pa pc sa sc) (hb : Below B w w') (hB : b < B) : SnA w' b o P S last laps pa pc sa sc :=
  ⟨(hb.cell (show (Addr.mk b _ none).block < B from hB)).trans h.c0, (hb.cell (show (Addr.mk b _ none).block < B from hB)).trans h.c1, (hb.cell (show (Addr.mk b _ none).block < B from hB)).trans h.c2, (hb.cell (show (Addr.mk b _ none).block < B from hB)).trans h.c3⟩
theorem SnA.draw {w : World} {b o : Nat} {P S : List Int} {last laps : Int} {pa sa : Option Addr} {pc sc : Nat} (h : SnA w b o P S last laps pa pc sa sc) (n : Nat) : SnA (w.drewN n) b o P S last laps pa pc sa sc := ⟨h.c0, h.c1, h.c2, h.c3⟩

set_option maxHeartbeats 1000000 in
theorem l02Owner_c (rb ro : Nat) (r : R) (n : Nat) (w : World) (h : R.At w rb ro r) (hb : r.Bd) (hn : n ≤ 1000) : Calls Try.prog 155 #[.pointer (some ⟨rb, ro, none⟩), .int .i64 n] w fun e w' => e = .returned (.int .i64 ((n : Int) / r.pits)) ∧ w = w' := by
  obtain ⟨lo, hi⟩ := hb
  have c0 := h.c0
  have q0 : 0 ≤ (n : Int) / r.pits := Int.ediv_nonneg (by omega) (by omega)
  have q1 : (n : Int) / r.pits ≤ n := Int.ediv_le_self _ (by omega)
  go_enter Try.func155, Try.ntmps155
  go_wp2
  go_ret
  exact ⟨rfl, rfl⟩

set_option maxHeartbeats 1000000 in
theorem l02Opposite_c (rb ro : Nat) (r : R) (n : Nat) (w : World) (h : R.At w rb ro r) (hb : r.Bd) (hn : n ≤ 1000) : Calls Try.prog 156 #[.pointer (some ⟨rb, ro, none⟩), .int .i64 n] w fun e w' => e = .returned (.int .i64 (2 * r.pits - 1 - n)) ∧ w = w' := by
  obtain ⟨lo, hi⟩ := hb
  have c0 := h.c0
  go_enter Try.func156, Try.ntmps156
  go_wp2
  go_ret
  exact ⟨rfl, rfl⟩

theorem psum_drop {P : List Int} {u j : Nat} (h : u + j < P.length) : psum (P.drop u) (j + 1) = psum (P.drop u) j + P[u + j] := by
  have h1 : j < (P.drop u).length := by simp; omega
  rw [psum_succ h1]
  simp
set_option maxHeartbeats 2000000 in
theorem l04Side_c (rb ro : Nat) (r : R) (hb : r.Bd) (pn : Nat) (hp : pn ≤ 1) (P : List Int) (hlen : (P.length : Int) = 2 * r.pits) (ha : allIn P = true) (pa : Option Addr) (pc : Nat) (w : World) (hr : R.At w rb ro r) (hP : Ints w pa P) :
    Calls Try.prog 151 #[.pointer (some ⟨rb, ro, none⟩), .slice pa P.length pc, .int .i64 pn] w fun e w' => e = .returned (.int .i64 (sideP r P pn)) ∧ w = w' := by
  obtain ⟨lo, hi⟩ := hb
  have c0 := hr.c0
  obtain ⟨b, o, rfl, hbs, hcs⟩ := Ints.open hP (by omega)
  have HCS := Lib.hid hcs
  obtain ⟨k, hk⟩ : ∃ k : Nat, r.pits = k := ⟨r.pits.toNat, by omega⟩
  obtain ⟨u, hu⟩ : ∃ u : Nat, u = pn * k := ⟨_, rfl⟩
  obtain ⟨v, hv⟩ : ∃ v : Nat, v = (pn + 1) * k := ⟨_, rfl⟩
  have e1 : (pn : Int) * r.pits = (u : Int) := by rw [hk, hu]; simp
  have e2 : ((pn : Int) + 1) * r.pits = (v : Int) := by rw [hk, hv]; simp
  have hk1 : v ≤ P.length := by
    have : (pn + 1) * k ≤ 2 * k := Nat.mul_le_mul_right k (by omega)
    omega
  have hk2 : v = u + k := by rw [hv, hu, Nat.add_mul]; simp
  have hSD : Hid (sideP r P pn = psum (P.drop u) k) := by
    unfold Hid sideP psum
    rw [e1, Int.toNat_natCast, hk, Int.toNat_natCast]
  have hv16 : v ≤ 16 := by omega
  have hk8 : k ≤ 8 := by omega
  have HA : Hid (∀ j, allIn ((P.drop u).take j) = true) := fun j => sub_sum ha _ _
  have hbd : bdL P 96 := fun n hn => allIn_get ha hn
  clear hu hv hcs hk
  go_enter Try.func151, Try.ntmps151
  go_wp2
  go_loop [7, 8] (fun s i => ∃ (j x : Nat), j ≤ k ∧ Hid (x = u + j) ∧ i = .int .i64 x ∧ s = .int .i64 (psum (P.drop u) j)) (fun _ i => v - (intOf i).toNat)
  case atStart => exact ⟨0, u, Nat.zero_le _, rfl, rfl, rfl⟩
  case round =>
    obtain ⟨j, x, hj, hx, rfl, rfl⟩ := hrel
    obtain ⟨b0, b1⟩ := psum_bd (HA.out j)
    have b2 : psum (P.drop u) j ≤ 96 * 8 := by omega
    have hxx : x = u + j := hx.out
    have hxl' : x < v → x < P.length := by omega
    have hjk : x < v → j + 1 ≤ k := by omega
    have hjk2 : ¬ x < v → j = k := by omega
    clear hxx
    by_cases hlt : x < v
    · have hxl : x < P.length := hxl' hlt
      have hj1 := hjk hlt
      clear hxl' hjk hjk2
      obtain ⟨y, hy⟩ : ∃ y, y = P[x] := ⟨_, rfl⟩
      have hyb : 0 ≤ y ∧ y ≤ 96 := by rw [hy]; exact bdL_get hbd hxl
      obtain ⟨y0, y9⟩ := hyb
      have hcx : w.cell? ⟨b, o + x, none⟩ = some (.int .i64 y) := by rw [hy]; exact HCS.out x hxl
      have HP : Hid (psum (P.drop u) (j + 1) = psum (P.drop u) j + y) := by
        have hxx : x = u + j := hx.out
        subst hxx
        rw [hy]
        exact psum_drop hxl
      clear hy
      go_wp2
      go_round
      case rel => exact ⟨j + 1, x + 1, hj1, by unfold Hid; have := hx.out; omega, by go_num, by rw [HP.out]⟩
      case measure => simp [intOf]; omega
    · obtain rfl : j = k := hjk2 hlt
      clear hxl' hjk hjk2
      go_wp2
      go_ret
      exact ⟨by rw [hSD.out]; rfl, rfl⟩

set_option maxHeartbeats 4000000 in
theorem l06Sum_c (b0 o0 : Nat) (P S l : List Int) (last laps : Int) (pa sa la : Option Addr) (pc sc lc : Nat) (w : World) (hs : SnA w b0 o0 P S last laps pa pc sa sc) (hP : Ints w pa P) (hl : Ints w la l) (hbd : bdL P 96) (hok : PitsOk P.length l) (hll : l.length ≤ 16) (hP0 : 0 < P.length) :
    Calls Try.prog 118 #[.pointer (some ⟨b0, o0, none⟩), .slice la l.length lc] w fun e w' => e = .returned (.int .i64 (gainP P l)) ∧ ∃ m, w' = w.drewN m := by
  obtain ⟨d0, d1, d2, d3⟩ := hs
  obtain ⟨b, o, rfl, hbs, hcs⟩ := Ints.open hP hP0
  have HCS := Lib.hid hcs
  obtain ⟨lok, lnd⟩ := hok
  clear hcs
  go_enter Try.func118, Try.ntmps118
  go_wp2
  go_loopw [5, 6] (fun s i wr => ∃ (k m : Nat), k ≤ l.length ∧ i = .int .i64 k ∧ s = .int .i64 (gainP P (l.take k)) ∧ wr = w.drewN m) (fun _ i _ => l.length - (intOf i).toNat)
  case atStart => exact ⟨0, 0, Nat.zero_le _, rfl, by simp [gainP], rfl⟩
  case round =>
    obtain ⟨k, m, hk, rfl, rfl, hw⟩ := hrel
    obtain ⟨g0, g1⟩ := gainP_bd hbd (by omega) (l.take k)
    have glen : (l.take k).length ≤ 16 := by simp; omega
    obtain ⟨gv, hgv⟩ : ∃ gv, gv = gainP P (l.take k) := ⟨_, rfl⟩
    have g2 : gv ≤ 96 * 16 := by omega
    rw [← hgv] at g0 ⊢
    by_cases hlt : k < l.length
    · have hSC := Lib.hid (gainP_succ P l hlt)
      rw [← hgv] at hSC
      obtain ⟨hx0, hx1⟩ := lok l[k] (List.getElem_mem hlt)
      obtain ⟨x, hx⟩ : ∃ x : Nat, l[k] = x := ⟨l[k].toNat, by omega⟩
      have hxl : x < P.length := by omega
      rw [hx] at hSC
      obtain ⟨b', o', rfl, hb', hcl⟩ := Ints.open hl (by omega)
      have hcx := hcl k hlt
      rw [hx] at hcx
      obtain ⟨v, hv⟩ : ∃ v, v = P[x] := ⟨_, rfl⟩
      have hvb : 0 ≤ v ∧ v ≤ 96 := by rw [hv]; exact bdL_get hbd hxl
      obtain ⟨v0, v9⟩ := hvb
      have hcv : w.cell? ⟨b, o + x, none⟩ = some (.int .i64 v) := by rw [hv]; exact HCS.out x hxl
      have hPv : P.getD (x : Int).toNat 0 = v := by rw [hv]; simp [hxl]
      rw [hPv] at hSC
      have hxc : ∀ b o, wr.cell? ⟨b, o, none⟩ = w.cell? ⟨b, o, none⟩ := fun b o => by rw [hw]; simp
      rw [← hxc] at hcx hcv
      have d0' := (hxc _ _).trans d0
      have HW := Lib.hid hw
      clear hcl hx hv hPv hgv hx0 hx1 g1 hw hxc d0 d1 d2 d3
      go_wp2_with fail
      go_region
      go_wp2
      go_roundw
      case rel => exact ⟨k + 1, _, by omega, by go_num, by rw [hSC.out], by rw [HW.out]; exact World.drewN_drewN _ _ _⟩
      case measure => simp [intOf]; omega
    · have he : l.take k = l := List.take_of_length_le (by omega)
      rw [he] at hgv
      have HG := Lib.hid hgv
      have HW := Lib.hid hw
      clear he hgv g1 hw
      go_wp2
      go_ret
      exact ⟨by rw [← HG.out]; rfl, m, HW.out⟩


/-! ### SRaw: captures: the pits that are taken, without the slam rule: the reference's function. The contract holds for every argument, under the premises that it states. -/
/-- a round of the two-three rule -/
structure TsSt (w wr : World) (r : R) (pn : Nat) (P : List Int) (tgt : List Int) (k : Nat) (acc : List Int) (ta : Option Addr) (tc hi : Nat) : Prop where
  go : acc ++ twoGo r pn P k = tgt
  kl : k ≤ P.length
  al : acc.length + k ≤ 17
  fr : Fr w wr [⟨w.heap.size, hi, RowP w.heap.size hi ta tc acc⟩]
set_option maxRecDepth 100000 in
set_option maxHeartbeats 8000000 in
theorem l06Raw_c (rb ro b0 o0 : Nat) (r : R) (hb : r.Bd) (pn : Nat) (hp : pn ≤ 1) (P S : List Int) (last laps : Int) (pa sa : Option Addr) (pc sc : Nat) (w : World) (hr : R.At w rb ro r) (hs : SnA w b0 o0 P S last laps pa pc sa sc) (hP : Ints w pa P) (hlen : (P.length : Int) = 2 * r.pits) (hpo : PlaceOk r last) (hbd : bdL P 1000000) :
    Calls Try.prog 117 #[.pointer (some ⟨rb, ro, none⟩), .pointer (some ⟨b0, o0, none⟩), .int .i64 (pn : Int)] w (IntsRes w (rawP r pn P last)) := by
  obtain ⟨i0, hi, hz0, hz1, hz2⟩ := info_parts infoI
  have hlo := hb.lo
  have hhi := hb.hi
  have hrb : rb < w.heap.size := World.block_lt_of_cell? w _ hr.c0
  have hsb : b0 < w.heap.size := World.block_lt_of_cell? w _ hs.c0
  have HR0 := Lib.hid hr
  have HS0 := Lib.hid hs
  have d7 := hr.c7
  obtain ⟨s0, s1, s2, s3⟩ := hs
  clear hr
  by_cases hl : last < 0
  · have HR : Hid (rawP r pn P last = []) := by simp [Hid, rawP, hl]
    go_enter Try.func117, Try.ntmps117
    go_wp2
    go_ret
    rw [HR.out]
    exact ⟨_, _, rfl, own_none w w.heap.size (Nat.le_refl _), below_alloc1 _ _⟩
  obtain ⟨ln, rfl⟩ : ∃ ln : Nat, last = ln := ⟨last.toNat, by omega⟩
  have hln : ln < P.length := by rcases hpo with h | h <;> omega
  obtain ⟨b, o, rfl, hbs, hcs⟩ := Ints.open hP (by omega)
  have HCS := Lib.hid hcs
  have F1 := (Fr.from (below_alloc1 w (.cells #[] 2))).own (own_none w w.heap.size (Nat.le_refl _))
  simp only [World.size_alloc] at F1
  have B1 := below_alloc1 w (.cells #[] 2)
  obtain ⟨q, hq⟩ : ∃ q, q = (ln : Int) / r.pits := ⟨_, rfl⟩
  have HQ := Lib.hid hq
  have HOW : Hid (∀ W, Below w.heap.size w W → Calls Try.prog 155 #[.pointer (some ⟨rb, ro, none⟩), .int .i64 (ln : Int)] W fun e w' => e = .returned (.int .i64 q) ∧ W = w') := fun W hW => by
    rw [hq]; exact l02Owner_c rb ro r ln W (HR0.out.below hW hrb) hb (by omega)
  have HNL : Hid (¬ (ln : Int) < 0) := by unfold Hid; omega
  clear hq hcs hpo
  have hcase : r.capture = 1 ∨ r.capture = 2 ∨ r.capture = 3 ∨ (¬ r.capture = 1 ∧ ¬ r.capture = 2 ∧ ¬ r.capture = 3) := by omega
  rcases hcase with hk | hk | hk | ⟨hk1, hk2, hk3⟩
  · have hST : Hid (TsSt w (w.alloc (.cells #[] 2)) r pn P (rawP r pn P ln) (ln + 1) [] (some ⟨w.heap.size, 0, none⟩) 0 (w.heap.size + 1)) :=
      ⟨by simp [rawP, HNL.out, hk], by omega, by simp; omega, F1⟩
    have e11 : (r.capture == 1) = true := by rw [hk]; decide
    clear F1 hk
    go_enter Try.func117, Try.ntmps117
    go_wp2_with (go_at_call 155; refine (HOW.out _ B1).mono ?_; rintro e w' ⟨rfl, rfl⟩)
    go_loopw [7, 8] (fun s p wr => ∃ (k : Nat) (pv : Int) (acc : List Int) (ta : Option Addr) (tc hi : Nat), s = .slice ta acc.length tc ∧ p = .int .i64 pv ∧ pv = (k : Int) - 1 ∧ TsSt w wr r pn P (rawP r pn P ln) k acc ta tc hi) (fun _ p _ => (intOf p + 1).toNat)
    case atStart => exact ⟨ln + 1, ln, [], _, _, _, rfl, rfl, by omega, hST.out⟩
    case round =>
      clear hST s0 s1 s2 s3 d7
      obtain ⟨k, pv, acc, ta, tc, hi', rfl, rfl, hpv, hst⟩ := hrel
      have HST := Lib.hid hst
      have hrr := HR0.out.below hst.fr.below hrb
      have hss := HS0.out.below hst.fr.below hsb
      have c0 := hrr.c0
      obtain ⟨s0, s1, s2, s3⟩ := hss
      cases k with
      | zero =>
        have HG := Lib.hid (show rawP r pn P ln = acc from by have := hst.go; simpa [twoGo] using this.symm)
        have F := hst.fr
        obtain rfl : pv = -1 := by omega
        clear hst hpv hrr
        go_wp2
        go_ret
        rw [HG.out]
        exact ⟨ta, tc, rfl, (F.at 0 rfl).1, F.below⟩
      | succ k =>
        obtain rfl : pv = (k : Int) := by omega
        have hkl := hst.kl
        have F := hst.fr
        have hgo := hst.go
        obtain ⟨x, hx⟩ : ∃ x, x = P[k] := ⟨_, rfl⟩
        have hxk : P.getD k 0 = x := by rw [hx]; simp [show k < P.length by omega]
        have hcx : wr.cell? ⟨b, o + k, none⟩ = some (.int .i64 x) := (F.below.cell (show (Addr.mk b (o + k) none).block < _ from hbs)).trans (by rw [hx]; exact HCS.out k (by omega))
        have hbs2 : b < wr.heap.size := Nat.lt_of_lt_of_le hbs F.below.size
        obtain ⟨qk, hqk⟩ : ∃ qk, qk = (k : Int) / r.pits := ⟨_, rfl⟩
        have HOK := Lib.hid (l02Owner_c rb ro r k wr hrr hb (by omega))
        rw [← hqk] at HOK
        rw [twoGo, ← hqk, hxk] at hgo
        have hal := hst.al
        clear hst hpv hx hqk hxk hrr
        have hkb : k ≤ 1000 := by omega
        by_cases ho : qk = pn
        · have HG := Lib.hid (show rawP r pn P ln = acc from by rw [if_neg (fun h => h.1 ho)] at hgo; simpa using hgo.symm)
          have hne : (qk != (pn : Int)) = false := by simpa using ho
          clear ho hgo
          go_wp2_with (go_at_call 155; refine HOK.out.mono ?_; rintro e w' ⟨rfl, rfl⟩)
          go_ret
          rw [HG.out]
          exact ⟨ta, tc, rfl, (F.at 0 rfl).1, F.below⟩
        · have hne : (qk != (pn : Int)) = true := by simpa using ho
          cases hbt : inB x 2 3
          · have HG := Lib.hid (show rawP r pn P ln = acc from by rw [hbt] at hgo; simpa using hgo.symm)
            clear hgo ho
            go_wp2_with (first | (go_at_call 155; refine HOK.out.mono ?_; rintro e w' ⟨rfl, rfl⟩) | (go_at_call 72; refine (l00In_c _ _ _ _).mono ?_; rintro e w' ⟨rfl, rfl⟩; rw [hbt]))
            go_ret
            rw [HG.out]
            exact ⟨ta, tc, rfl, (F.at 0 rfl).1, F.below⟩
          · have HG := Lib.hid (show (acc ++ [(k : Int)]) ++ twoGo r pn P k = rawP r pn P ln from by rw [if_pos ⟨ho, hbt⟩] at hgo; simpa using hgo)
            have hown := (F.at 0 rfl).1
            unfold OwnI at hown
            clear hgo ho
            go_wp2_with (first | (go_at_call 155; refine HOK.out.mono ?_; rintro e w' ⟨rfl, rfl⟩) | (go_at_call 72; refine (l00In_c _ _ _ _).mono ?_; rintro e w' ⟨rfl, rfl⟩; rw [hbt]) | (at_builtin; refine wpList_append_own2 _ rfl _ _ 24 rfl w.heap.size 2 i0 (.int .i64 0) 1 8 Try.underlying24 hi hz0 hz1 hz2 rfl (by decide) _ _ _ rfl (hown.alloc _) ⟨wr.heap.size, 0, none⟩ 1 1 [.int .i64 (k : Int)] rfl rfl ?c1 ?c2 ?c3 ?c4 ?c5 ?_))
            case c1 => intro j u hu; match j, hu with | 0, hu => (simp at hu; subst hu; simp [Addr.add])
            case c2 => intro u hu; simp at hu; subst hu; rfl
            case c3 => unfold maxLen; omega
            case c4 => omega
            case c5 => (simp; have := F.below.size; try omega)
            intro ad' c' w4 hown4 hg4 hn4
            have F4 := Lib.hid (Fr.app (ys := [(k : Int)]) F (Nat.le_refl _) (by simp) hg4 (by simpa using hown4) rfl)
            clear hown4 hg4 hn4 hown F s0 s1 s2 s3 hcx c0
            go_wp2
            go_roundw
            case rel => exact ⟨k, (k : Int) - 1, acc ++ [(k : Int)], ad', c', _, by simp, by go_num, rfl, HG.out, by omega, by simp; omega, F4.out⟩
            case measure => simp [intOf]
  · -- the cross rule
    obtain ⟨x, hx⟩ : ∃ x, x = P[ln] := ⟨_, rfl⟩
    obtain ⟨on, hon⟩ : ∃ on : Nat, (on : Int) = 2 * r.pits - 1 - ln := ⟨(2 * r.pits - 1 - ln).toNat, by omega⟩
    have honl : on < P.length := by omega
    obtain ⟨y, hy⟩ : ∃ y, y = P[on] := ⟨_, rfl⟩
    have hcx : w.cell? ⟨b, o + ln, none⟩ = some (.int .i64 x) := by rw [hx]; exact HCS.out ln hln
    have hcy : w.cell? ⟨b, o + on, none⟩ = some (.int .i64 y) := by rw [hy]; exact HCS.out on honl
    have HR : Hid (rawP r pn P ln = if q = pn ∧ x = 1 ∧ 0 < y then [(ln : Int), (on : Int)] else []) := by
      unfold Hid rawP
      rw [if_neg HNL.out, if_neg (by rw [hk]; decide), if_pos hk, ← HQ.out, ← hon]
      have e1 : P.getD (ln : Int).toNat 0 = x := by rw [hx]; simp [hln]
      have e2 : P.getD (on : Int).toNat 0 = y := by rw [hy]; simp [honl]
      rw [e1, e2]
    have HOPD : Hid (∀ n, Calls Try.prog 156 #[.pointer (some ⟨rb, ro, none⟩), .int .i64 (ln : Int)] ((w.alloc (.cells #[] 2)).drewN n) fun e w' => e = .returned (.int .i64 (on : Int)) ∧ (w.alloc (.cells #[] 2)).drewN n = w') := fun n => by
      rw [hon]; exact l02Opposite_c rb ro r ln _ ((HR0.out.below B1 hrb).draw n) hb (by omega)
    have e12 : (r.capture == 1) = false := by rw [hk]; decide
    have e13 : (r.capture == 2) = true := by rw [hk]; decide
    have hown := (F1.at 0 rfl).1
    have HOWN := Lib.hid hown
    unfold OwnI at hown
    have HNO : Hid (¬ (q = pn ∧ x = 1 ∧ 0 < y) → rawP r pn P ln = []) := fun h => by rw [HR.out, if_neg h]
    have HF1 := Lib.hid F1.below
    clear hx hy hon hk
    by_cases hq1 : q = pn
    case neg =>
      have t1 : (q == (pn : Int)) = false := by simpa using hq1
      have HE := Lib.hid (HNO.out (fun h => hq1 h.1))
      clear hq1
      go_enter Try.func117, Try.ntmps117
      go_wp2_with (go_at_call 155; refine (HOW.out _ B1).mono ?_; rintro e w' ⟨rfl, rfl⟩)
      go_quiet ((go_at_call 156; exact Calls.quiet_of_same (q_same (HOPD.out _))))
      go_wp2
      go_ret
      rw [HE.out]
      exact ⟨_, _, rfl, own_below HOWN.out (below_draws _ _ _) (Nat.le_refl _), HF1.out.trans (below_draws _ _ _)⟩
    have t1 : (q == (pn : Int)) = true := by simpa using hq1
    by_cases hx1 : x = 1
    case neg =>
      have t2 : (x == 1) = false := by simpa using hx1
      have HE := Lib.hid (HNO.out (fun h => hx1 h.2.1))
      clear hq1 hx1
      go_enter Try.func117, Try.ntmps117
      go_wp2_with (go_at_call 155; refine (HOW.out _ B1).mono ?_; rintro e w' ⟨rfl, rfl⟩)
      go_quiet ((go_at_call 156; exact Calls.quiet_of_same (q_same (HOPD.out _))))
      go_wp2
      go_ret
      rw [HE.out]
      exact ⟨_, _, rfl, own_below HOWN.out (below_draws _ _ _) (Nat.le_refl _), HF1.out.trans (below_draws _ _ _)⟩
    have t2 : (x == 1) = true := by simpa using hx1
    by_cases hy1 : 0 < y
    case neg =>
      have HE := Lib.hid (HNO.out (fun h => hy1 h.2.2))
      have t3 : ¬ y > 0 := hy1
      clear hq1 hx1 hy1
      go_enter Try.func117, Try.ntmps117
      go_wp2_with (go_at_call 155; refine (HOW.out _ B1).mono ?_; rintro e w' ⟨rfl, rfl⟩)
      go_quiet ((go_at_call 156; exact Calls.quiet_of_same (q_same (HOPD.out _))))
      go_wp2
      go_ret
      rw [HE.out]
      exact ⟨_, _, rfl, own_below HOWN.out (below_draws _ _ _) (Nat.le_refl _), HF1.out.trans (below_draws _ _ _)⟩
    have HE := Lib.hid (show rawP r pn P ln = [(ln : Int), (on : Int)] from by rw [HR.out, if_pos ⟨hq1, hx1, hy1⟩])
    have t3 : y > 0 := hy1
    clear hq1 hx1 hy1 HNO HR
    go_enter Try.func117, Try.ntmps117
    go_wp2_with (go_at_call 155; refine (HOW.out _ B1).mono ?_; rintro e w' ⟨rfl, rfl⟩)
    go_quiet ((go_at_call 156; exact Calls.quiet_of_same (q_same (HOPD.out _))))
    go_wp2_with (first | (go_at_call 156; refine (HOPD.out _).mono ?_; rintro e w' ⟨rfl, rfl⟩) | (at_builtin; refine wpList_append_own2 _ rfl _ _ 24 rfl w.heap.size 2 i0 (.int .i64 0) 1 8 Try.underlying24 hi hz0 hz1 hz2 rfl (by decide) _ _ _ rfl (World.ownsRow.alloc (own_below hown (below_draws _ _ _) (Nat.le_refl _)) _) ⟨w.heap.size + 1, 0, none⟩ 2 2 [.int .i64 (ln : Int), .int .i64 (on : Int)] rfl rfl ?c1 ?c2 ?c3 ?c4 ?c5 ?_))
    case c1 =>
      rename_i nq
      intro j u hu
      have hm := (made (cs := #[.int .i64 (ln : Int), .int .i64 (on : Int)]) (e := 2) (w := (w.alloc (.cells #[] 2)).drewN nq) (w' := _) rfl).2.1 j u hu
      rcases j with _ | j <;> simpa [Addr.add] using hm
    case c2 => intro u hu; simp at hu; rcases hu with rfl | rfl <;> rfl
    case c3 => (simp only [List.length_nil]; unfold maxLen; omega)
    case c4 => (simp only [List.length_nil]; omega)
    case c5 => (simp; try omega)
    intro ad' c' w4 hown4 hg4 hn4
    have F4 := Lib.hid (Fr.app (ys := [(ln : Int), (on : Int)]) (F1.drawn _) (Nat.le_refl _) (by simp) hg4 (by simpa using hown4) rfl)
    clear hown4 hg4 hn4 hown F1
    go_wp2
    go_ret
    rw [HE.out]
    exact ⟨_, _, rfl, (F4.out.at 0 rfl).1, F4.out.below⟩
  · -- the even rule
    obtain ⟨x, hx⟩ : ∃ x, x = P[ln] := ⟨_, rfl⟩
    have hx0 : 0 ≤ x ∧ x ≤ 1000000 := by rw [hx]; exact bdL_get hbd hln
    obtain ⟨hx0, hx9⟩ := hx0
    have hcx : w.cell? ⟨b, o + ln, none⟩ = some (.int .i64 x) := by rw [hx]; exact HCS.out ln hln
    have HR : Hid (rawP r pn P ln = if ¬ q = pn ∧ x % 2 = 0 then [(ln : Int)] else []) := by
      unfold Hid rawP
      rw [if_neg HNL.out, if_neg (by rw [hk]; decide), if_neg (by rw [hk]; decide), if_pos hk, ← HQ.out]
      have e1 : P.getD (ln : Int).toNat 0 = x := by rw [hx]; simp [hln]
      rw [e1]
    have e12 : (r.capture == 1) = false := by rw [hk]; decide
    have e13 : (r.capture == 2) = false := by rw [hk]; decide
    have e14 : (r.capture == 3) = true := by rw [hk]; decide
    have hown := (F1.at 0 rfl).1
    have HOWN := Lib.hid hown
    unfold OwnI at hown
    have HNO : Hid (¬ (¬ q = pn ∧ x % 2 = 0) → rawP r pn P ln = []) := fun h => by rw [HR.out, if_neg h]
    have HF1 := Lib.hid F1.below
    clear hx hk
    by_cases hq1 : q = pn
    · have t1 : (q == (pn : Int)) = true := by simpa using hq1
      have HE := Lib.hid (HNO.out (fun h => h.1 hq1))
      clear hq1
      go_enter Try.func117, Try.ntmps117
      go_wp2_with (go_at_call 155; refine (HOW.out _ B1).mono ?_; rintro e w' ⟨rfl, rfl⟩)
      go_ret
      rw [HE.out]
      exact ⟨_, _, rfl, HOWN.out, HF1.out⟩
    have t1 : (q == (pn : Int)) = false := by simpa using hq1
    by_cases hx1 : x % 2 = 0
    case neg =>
      have t2 : (x % 2 == 0) = false := by simpa using hx1
      have HE := Lib.hid (HNO.out (fun h => hx1 h.2))
      clear hq1 hx1
      go_enter Try.func117, Try.ntmps117
      go_wp2_with (go_at_call 155; refine (HOW.out _ B1).mono ?_; rintro e w' ⟨rfl, rfl⟩)
      go_ret
      rw [HE.out]
      exact ⟨_, _, rfl, HOWN.out, HF1.out⟩
    have HE := Lib.hid (show rawP r pn P ln = [(ln : Int)] from by rw [HR.out, if_pos ⟨hq1, hx1⟩])
    have t2 : (x % 2 == 0) = true := by simpa using hx1
    clear hq1 hx1 HNO HR
    go_enter Try.func117, Try.ntmps117
    go_wp2_with (first | (go_at_call 155; refine (HOW.out _ B1).mono ?_; rintro e w' ⟨rfl, rfl⟩) | (at_builtin; refine wpList_append_own2 _ rfl _ _ 24 rfl w.heap.size 2 i0 (.int .i64 0) 1 8 Try.underlying24 hi hz0 hz1 hz2 rfl (by decide) _ _ _ rfl (hown.alloc _) ⟨w.heap.size + 1, 0, none⟩ 1 1 [.int .i64 (ln : Int)] rfl rfl ?c1 ?c2 ?c3 ?c4 ?c5 ?_))
    case c1 => intro j u hu; match j, hu with | 0, hu => (simp at hu; subst hu; simp [Addr.add])
    case c2 => intro u hu; simp at hu; subst hu; rfl
    case c3 => (simp only [List.length_nil]; unfold maxLen; omega)
    case c4 => (simp only [List.length_nil]; omega)
    case c5 => (simp; try omega)
    intro ad' c' w4 hown4 hg4 hn4
    have F4 := Lib.hid (Fr.app (ys := [(ln : Int)]) F1 (Nat.le_refl _) (by simp) hg4 (by simpa using hown4) rfl)
    clear hown4 hg4 hn4 hown F1
    go_wp2
    go_ret
    rw [HE.out]
    exact ⟨_, _, rfl, (F4.out.at 0 rfl).1, F4.out.below⟩
  · have HR : Hid (rawP r pn P ln = []) := by simp [Hid, rawP, HNL.out, hk1, hk2, hk3]
    have e1 : (r.capture == 1) = false := by simpa using hk1
    have e2 : (r.capture == 2) = false := by simpa using hk2
    have e3 : (r.capture == 3) = false := by simpa using hk3
    clear hk1 hk2 hk3
    go_enter Try.func117, Try.ntmps117
    go_wp2_with (go_at_call 155; refine (HOW.out _ B1).mono ?_; rintro e w' ⟨rfl, rfl⟩)
    go_ret
    rw [HR.out]
    exact ⟨_, _, rfl, (F1.at 0 rfl).1, F1.below⟩


end Go.Proofs.Ytbjgigdkbjabaaa
