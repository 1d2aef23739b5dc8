/- Cap3: captures: slams, and the pits that are captured: the program's functions. Each contract holds for every argument, under the premises that it states. -/
import Derived.Test.YtbjgigdkbjabaaaCap1
namespace Go.Proofs.Ytbjgigdkbjabaaa
set_option linter.unusedSimpArgs false
set_option linter.unusedVariables false
set_option linter.unnecessarySimpa false
open Go.RowKit Go.ChangeShapes Go.WideShapes Go.ChangeAt Go.Joins

theorem getD_bd {P : List Int} {m : Int} (h : bdL P m) (hm : 0 ≤ m) (k : Nat) : 0 ≤ P.getD k 0 ∧ P.getD k 0 ≤ m := by
  rcases Nat.lt_or_ge k P.length with h1 | h1
  · have := bdL_get h h1
    simp [h1]
    exact this
  · simp [h1]; exact hm
theorem gainP_bd {P : List Int} {m : Int} (h : bdL P m) (hm : 0 ≤ m) : ∀ l : List Int, 0 ≤ gainP P l ∧ gainP P l ≤ m * (l.length : Int)
  | [] => by simp [gainP]
  | k :: l => by
    obtain ⟨h1, h2⟩ := gainP_bd h hm l
    obtain ⟨h3, h4⟩ := getD_bd h hm k.toNat
    rw [gainP_cons]
    simp only [List.length_cons, Int.natCast_add, Int.natCast_one, Int.mul_add, Int.mul_one]
    omega
theorem goneP_bd {P : List Int} {m : Int} (r : R) (pl : Int) (h : bdL P m) (hm : 0 ≤ m) (l : List Int) : 0 ≤ goneP r pl P l ∧ goneP r pl P l ≤ m * (l.length : Int) := by
  obtain ⟨h1, h2⟩ := gainP_bd h hm (l.filter fun k => ¬ k / r.pits = pl)
  refine ⟨h1, Int.le_trans h2 (Int.mul_le_mul_of_nonneg_left ?_ hm)⟩
  exact_mod_cast List.length_filter_le _ _
theorem goneP_succ (r : R) (pl : Int) (P l : List Int) {j : Nat} (h : j < l.length) : goneP r pl P (l.take (j + 1)) = goneP r pl P (l.take j) + (if l[j] / r.pits = pl then 0 else P.getD l[j].toNat 0) := by
  rw [List.take_add_one, List.getElem?_eq_getElem h, Option.toList, goneP_append]
  congr 1
  unfold goneP gainP
  by_cases hq : l[j] / r.pits = pl
  · simp [hq]
  · simp [hq]

theorem gainP_succ (P l : List Int) {j : Nat} (h : j < l.length) : gainP P (l.take (j + 1)) = gainP P (l.take j) + P.getD l[j].toNat 0 := by
  rw [List.take_add_one, List.getElem?_eq_getElem h, Option.toList, gainP_append]
  simp [gainP]
set_option maxRecDepth 100000 in
set_option maxHeartbeats 8000000 in
theorem slams_c (r : R) (hb : r.Bd) (pn : Nat) (hp : pn ≤ 1) (P S : List Int) (last laps : Int) (pa sa : Option Addr) (pc sc : Nat) (w : World) (hP : Ints w pa P) (hlen : (P.length : Int) = 2 * r.pits) (hpo : PlaceOk r last) (ha : allIn P = true) (hc : P.length ≤ pc) (hcm : pc ≤ maxLen) :
    Calls Try.prog 160 #[r.val, snV P S last laps pa pc sa sc, .int .i64 (pn : Int)] w fun e w' => e = .returned (.bool (slamP r pn P last)) ∧ Below w.heap.size w w' := by
  have hbd : bdL P 96 := fun n hn => allIn_get ha hn
  have hlo := hb.lo
  have hhi := hb.hi
  obtain ⟨qn, hqn⟩ : ∃ qn : Nat, (qn : Int) = 1 - pn := ⟨1 - pn, by omega⟩
  have hqn1 : qn ≤ 1 := by omega
  obtain ⟨l, hl⟩ : ∃ l, l = rawP r pn P last := ⟨_, rfl⟩
  obtain ⟨sd, hsd⟩ : ∃ sd, sd = sideP r P qn := ⟨_, rfl⟩
  have HSL : Hid (slamP r pn P last = (decide (0 < goneP r pn P l) && decide (sd = goneP r pn P l))) := by
    unfold Hid slamP
    rw [← hl, ← hqn, ← hsd]
  obtain ⟨⟨lok, lnd⟩, llen⟩ := rawP_ok hb pn P last hlen hpo
  rw [← hl] at lok lnd llen
  have HTK := Lib.hid (fun W (H : Ints W pa P) => hl ▸ taken_c r hb pn hp P S last laps pa sa pc sc W H hlen hpo (bdL_mono hbd (by omega)) : ∀ W, Ints W pa P → Calls Try.prog 125 #[r.val, snV P S last laps pa pc sa sc, .int .i64 (pn : Int)] W (IntsRes W l))
  have HSD : Hid (∀ W, Ints W pa P → Calls Try.prog 181 #[r.val, .slice pa P.length pc, .int .i64 (1 - (pn : Int))] W fun e w' => e = .returned (.int .i64 sd) ∧ Below W.heap.size W w') := fun W H => by
    rw [hsd, ← hqn]; exact side_c r hb qn hqn1 P hlen ha pa pc W H hc hcm
  obtain ⟨b, o, rfl, hbs, hcs⟩ := Ints.open hP (by omega)
  have HCS := Lib.hid hcs
  have F0 := ((Fr.start w).alloc r.cells 33).alloc (snC P S last laps (some ⟨b, o, none⟩) pc sa sc) 148
  simp only [World.size_alloc] at F0
  clear hl hsd hqn hcs hpo
  go_enter Try.func160, Try.ntmps160
  go_wp2_with fail
  refine (HSD.out _ (hP.below F0.below (Nat.le_refl _))).mono ?_
  rintro e w1 ⟨rfl, hb1⟩
  have F1 := F0.step hb1
  obtain ⟨c0, c1, c2, c3, c4, c5, c6, c7, c8⟩ := R.boxc (F1.at 1 rfl)
  obtain ⟨s0, s1, s2, s3⟩ := (⟨F1.at 0 rfl 0 _ rfl, F1.at 0 rfl 1 _ rfl, F1.at 0 rfl 2 _ rfl, F1.at 0 rfl 3 _ rfl⟩ : _ ∧ _ ∧ _ ∧ _)
  have zA : w.heap.size < w1.heap.size := F1.le 1 rfl
  have zB : w.heap.size + 1 < w1.heap.size := F1.le 0 rfl
  clear F0 hb1
  go_wp2_with fail
  refine (HTK.out _ (hP.below F1.below (Nat.le_refl _))).mono ?_
  rintro e w2 ⟨la, lc, rfl, hol, hb2⟩
  have F2 := (F1.step hb2).own hol
  obtain ⟨lo2, hlo2⟩ : ∃ n, n = w1.heap.size := ⟨_, rfl⟩
  obtain ⟨hi2, hhi2⟩ : ∃ n, n = w2.heap.size := ⟨_, rfl⟩
  have hF2 : Hid (Fr w w2 [⟨lo2, hi2, RowP lo2 hi2 la lc l⟩, ⟨w.heap.size + 1, w.heap.size + 1 + 1, BoxP (w.heap.size + 1) (snC P S last laps (some ⟨b, o, none⟩) pc sa sc).toList⟩, ⟨w.heap.size, w.heap.size + 1, BoxP w.heap.size r.cells.toList⟩]) := by rw [hlo2, hhi2]; exact F2
  clear c0 c1 c2 c3 c4 c5 c6 c7 c8 s0 s1 s2 s3 zA zB F1 F2 hol hb2 hlo2 hhi2
  go_wp2
  go_loopw [8, 22] (fun g i wr => ∃ k : Nat, k ≤ l.length ∧ i = .int .i64 k ∧ g = .int .i64 (goneP r pn P (l.take k)) ∧ Fr w wr [⟨lo2, hi2, RowP lo2 hi2 la lc l⟩, ⟨w.heap.size + 1, w.heap.size + 1 + 1, BoxP (w.heap.size + 1) (snC P S last laps (some ⟨b, o, none⟩) pc sa sc).toList⟩, ⟨w.heap.size, w.heap.size + 1, BoxP w.heap.size r.cells.toList⟩]) (fun _ i _ => l.length - (intOf i).toNat)
  case atStart => exact ⟨0, Nat.zero_le _, rfl, by simp [goneP, gainP], hF2.out⟩
  case round =>
    clear hF2
    obtain ⟨k, hk, rfl, rfl, F⟩ := hrel
    obtain ⟨g0, g1⟩ := goneP_bd r pn hbd (by omega) (l.take k)
    have glen : (l.take k).length ≤ 16 := by simp; omega
    have g2 : goneP r pn P (l.take k) ≤ 96 * 16 := by omega
    obtain ⟨gv, hgv⟩ : ∃ gv, gv = goneP r pn P (l.take k) := ⟨_, rfl⟩
    rw [← hgv] at g0 g2 ⊢
    by_cases hlt : k < l.length
    · have hSC := Lib.hid (goneP_succ r pn P l hlt)
      rw [← hgv] at hSC
      obtain ⟨hx0, hx1⟩ := lok l[k] (List.getElem_mem hlt)
      obtain ⟨x, hx⟩ : ∃ x : Nat, l[k] = x := ⟨l[k].toNat, by omega⟩
      have hxl : x < P.length := by omega
      rw [hx] at hSC
      have hrow : Ints _ la l := own_row (F.at 0 rfl).1
      obtain ⟨b', o', rfl, hb', hcl⟩ := Ints.open hrow (by omega)
      have hcx := hcl k hlt
      rw [hx] at hcx
      obtain ⟨v, hv⟩ : ∃ v, v = P[x] := ⟨_, rfl⟩
      have hvb : 0 ≤ v ∧ v ≤ 96 := by rw [hv]; exact bdL_get hbd hxl
      obtain ⟨v0, v9⟩ := hvb
      have hcv : w.cell? ⟨b, o + x, none⟩ = some (.int .i64 v) := by rw [hv]; exact HCS.out x hxl
      have hPv : P.getD (x : Int).toNat 0 = v := by rw [hv]; simp [hxl]
      rw [hPv] at hSC
      obtain ⟨q, hq⟩ : ∃ q, q = (x : Int) / r.pits := ⟨_, rfl⟩
      have HOW := Lib.hid (fun W => owner_c r x W hb (by omega))
      rw [← hq] at HOW hSC
      obtain ⟨c0, c1, c2, c3, c4, c5, c6, c7, c8⟩ := R.boxc (F.at 2 rfl)
      have zA : w.heap.size < wr.heap.size := F.le 2 rfl
      clear hcl hrow hx hv hPv hq hgv hx0 hx1
      by_cases ho : q = pn
      · have hE : Hid (goneP r pn P (l.take (k + 1)) = gv) := by unfold Hid; rw [hSC.out, if_pos ho]; simp
        have hne : (q != (pn : Int)) = false := by simpa using ho
        clear ho hSC
        go_wp2_with (go_at_call 161; refine (HOW.out _).mono ?_; rintro e w3 ⟨rfl, hb3⟩)
        go_roundw
        case rel => exact ⟨k + 1, by omega, by go_num, by rw [hE.out], F.step hb3⟩
        case measure => simp [intOf]; omega
      · have hE : Hid (goneP r pn P (l.take (k + 1)) = gv + v) := by unfold Hid; rw [hSC.out, if_neg ho]
        have hne : (q != (pn : Int)) = true := by simpa using ho
        clear ho hSC
        go_wp2_with fail
        refine (HOW.out _).mono ?_
        rintro e w3 ⟨rfl, hb3⟩
        have F3 := F.step hb3
        clear c0 c1 c2 c3 c4 c5 c6 c7 c8 zA hb3 F hcx
        obtain ⟨s0, s1, s2, s3⟩ := (⟨F3.at 1 rfl 0 _ rfl, F3.at 1 rfl 1 _ rfl, F3.at 1 rfl 2 _ rfl, F3.at 1 rfl 3 _ rfl⟩ : _ ∧ _ ∧ _ ∧ _)
        have zB : w.heap.size + 1 < w3.heap.size := F3.le 1 rfl
        have hcv3 : w3.cell? ⟨b, o + x, none⟩ = some (.int .i64 v) := (F3.below.cell (show (Addr.mk b (o + x) none).block < _ from hbs)).trans hcv
        go_wp2
        go_roundw
        case rel => exact ⟨k + 1, by omega, by go_num, by rw [hE.out], F3⟩
        case measure => simp [intOf]; omega
    · have he : l.take k = l := List.take_of_length_le (by omega)
      rw [he] at hgv
      have HG := Lib.hid hgv
      clear he hgv g1
      by_cases h1 : 0 < gv
      · have h1' : gv > 0 := h1
        by_cases h2 : sd = gv
        · have h2' : (sd == gv) = true := by simpa using h2
          have HH := Lib.hid (⟨h1, h2⟩ : 0 < gv ∧ sd = gv)
          clear h1 h2
          go_wp2
          go_ret
          exact ⟨by rw [HSL.out, ← HG.out]; refine ret_bool ?_; simp [HH.out.1, HH.out.2], F.below⟩
        · have h2' : (sd == gv) = false := by simpa using h2
          have HH := Lib.hid h2
          clear h1 h2
          go_wp2
          go_ret
          exact ⟨by rw [HSL.out, ← HG.out]; refine ret_bool ?_; simp; intro _; exact HH.out, F.below⟩
      · have h1' : ¬ gv > 0 := h1
        have HH := Lib.hid h1
        clear h1
        go_wp2
        go_ret
        exact ⟨by rw [HSL.out, ← HG.out]; refine ret_bool ?_; simp; intro h; exact absurd h (by have := HH.out; omega), F.below⟩

set_option maxRecDepth 100000 in
set_option maxHeartbeats 4000000 in
theorem captured_c (r : R) (hb : r.Bd) (pn : Nat) (hp : pn ≤ 1) (P S : List Int) (last laps : Int) (pa sa : Option Addr) (pc sc : Nat) (w : World) (hP : Ints w pa P) (hlen : (P.length : Int) = 2 * r.pits) (hpo : PlaceOk r last) (ha : allIn P = true) (hc : P.length ≤ pc) (hcm : pc ≤ maxLen) :
    Calls Try.prog 124 #[r.val, snV P S last laps pa pc sa sc, .int .i64 (pn : Int)] w (IntsRes w (capP r pn P last)) := by
  have hbd : bdL P 1000000 := fun n hn => by have := allIn_get ha hn; omega
  have F0 := ((Fr.start w).alloc r.cells 33).alloc (snC P S last laps pa pc sa sc) 148
  simp only [World.size_alloc] at F0
  have HTK := Lib.hid (fun W (H : Ints W pa P) => taken_c r hb pn hp P S last laps pa sa pc sc W H hlen hpo hbd)
  have HSM := Lib.hid (fun W (H : Ints W pa P) => slams_c r hb pn hp P S last laps pa sa pc sc W H hlen hpo ha hc hcm)
  obtain ⟨sl, hsl⟩ : ∃ sl, sl = slamP r pn P last := ⟨_, rfl⟩
  rw [← hsl] at HSM
  by_cases hk : r.slam = 2
  case neg =>
    have HE : Hid (capP r pn P last = rawP r pn P last) := by unfold Hid capP; rw [if_neg (fun h => hk h.1)]
    have hk1 : (r.slam == 2) = false := by simpa using hk
    clear hk hsl
    go_enter Try.func124, Try.ntmps124
    go_wp2_with fail
    refine (HTK.out _ (hP.below F0.below (Nat.le_refl _))).mono ?_
    rintro e w2 ⟨la, lc, rfl, hol, hb2⟩
    go_wp2
    go_ret
    rw [HE.out]
    exact ⟨la, lc, rfl, ownsRow_le hol (by simp; omega), below_next F0.below hb2⟩
  have hk1 : (r.slam == 2) = true := by simpa using hk
  cases sl
  · have HE : Hid (capP r pn P last = rawP r pn P last) := by unfold Hid capP; rw [if_neg (fun h => by rw [← hsl] at h; exact absurd h.2 (by simp))]
    clear hk hsl
    go_enter Try.func124, Try.ntmps124
    go_wp2_with fail
    refine (HSM.out _ (hP.below F0.below (Nat.le_refl _))).mono ?_
    rintro e w1 ⟨rfl, hb1⟩
    have F1 := F0.step hb1
    obtain ⟨c0, c1, c2, c3, c4, c5, c6, c7, c8⟩ := R.boxc (F1.at 1 rfl)
    obtain ⟨s0, s1, s2, s3⟩ := (⟨F1.at 0 rfl 0 _ rfl, F1.at 0 rfl 1 _ rfl, F1.at 0 rfl 2 _ rfl, F1.at 0 rfl 3 _ rfl⟩ : _ ∧ _ ∧ _ ∧ _)
    have zA : w.heap.size < w1.heap.size := F1.le 1 rfl
    have zB : w.heap.size + 1 < w1.heap.size := F1.le 0 rfl
    clear hb1 F0
    go_wp2_with fail
    refine (HTK.out _ (hP.below F1.below (Nat.le_refl _))).mono ?_
    rintro e w2 ⟨la, lc, rfl, hol, hb2⟩
    go_wp2
    go_ret
    rw [HE.out]
    exact ⟨la, lc, rfl, ownsRow_le hol (by omega), below_next F1.below hb2⟩
  · have HE : Hid (capP r pn P last = []) := by unfold Hid capP; rw [if_pos ⟨hk, hsl.symm⟩]
    clear hk hsl
    go_enter Try.func124, Try.ntmps124
    go_wp2_with fail
    refine (HSM.out _ (hP.below F0.below (Nat.le_refl _))).mono ?_
    rintro e w1 ⟨rfl, hb1⟩
    have B1 := below_next F0.below hb1
    go_wp2
    go_ret
    rw [HE.out]
    exact ⟨_, _, rfl, by have := own_none w1 w.heap.size B1.size; simpa using this, B1.alloc B1.size _⟩

end Go.Proofs.Ytbjgigdkbjabaaa
