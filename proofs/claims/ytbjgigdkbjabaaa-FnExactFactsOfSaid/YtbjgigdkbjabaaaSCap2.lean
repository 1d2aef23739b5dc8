/- SCap2: captures: slams, and the pits that are captured: the reference's functions. Each contract holds for every argument, under the premises that it states. -/
import Derived.Test.YtbjgigdkbjabaaaSCap1
namespace Go.Proofs.Ytbjgigdkbjabaaa
set_option linter.unusedSimpArgs false
set_option linter.unusedVariables false
set_option linter.unnecessarySimpa false
open Go.RowKit Go.ChangeShapes Go.WideShapes Go.ChangeAt Go.Joins

set_option maxRecDepth 100000 in
set_option maxHeartbeats 8000000 in
theorem l06Slam_c (rb ro b0 o0 : Nat) (r : R) (hb : r.Bd) (pn : Nat) (hp : pn ≤ 1) (P S : List Int) (last laps : Int) (pa sa : Option Addr) (pc sc : Nat) (w : World) (hr : R.At w rb ro r) (hs : SnA w b0 o0 P S last laps pa pc sa sc) (hP : Ints w pa P) (hlen : (P.length : Int) = 2 * r.pits) (hpo : PlaceOk r last) (ha : allIn P = true) :
    Calls Try.prog 148 #[.pointer (some ⟨rb, ro, none⟩), .pointer (some ⟨b0, o0, none⟩), .int .i64 (pn : Int)] w fun e w' => e = .returned (.bool (slamP r pn P last)) ∧ Below w.heap.size w w' := by
  have hbd : bdL P 96 := fun n hn => allIn_get ha hn
  have hlo := hb.lo
  have hhi := hb.hi
  have hrb : rb < w.heap.size := World.block_lt_of_cell? w _ hr.c0
  have hsb : b0 < w.heap.size := World.block_lt_of_cell? w _ hs.c0
  obtain ⟨qn, hqn⟩ : ∃ qn : Nat, (qn : Int) = 1 - pn := ⟨1 - pn, by omega⟩
  have hqn1 : qn ≤ 1 := by omega
  obtain ⟨l, hl⟩ : ∃ l, l = rawP r pn P last := ⟨_, rfl⟩
  obtain ⟨sd, hsd⟩ : ∃ sd, sd = sideP r P qn := ⟨_, rfl⟩
  have HSL : Hid (slamP r pn P last = (decide (0 < goneP r pn P l) && decide (goneP r pn P l = sd))) := by
    unfold Hid slamP
    rw [← hl, ← hqn, ← hsd]
    congr 1
    exact decide_eq_decide.2 ⟨Eq.symm, Eq.symm⟩
  obtain ⟨⟨lok, lnd⟩, llen⟩ := rawP_ok hb pn P last hlen hpo
  rw [← hl] at lok lnd llen
  have HTK := Lib.hid (l06Raw_c rb ro b0 o0 r hb pn hp P S last laps pa sa pc sc w hr hs hP hlen hpo (bdL_mono hbd (by omega)))
  rw [← hl] at HTK
  have HSD : Hid (∀ W, Below w.heap.size w W → Calls Try.prog 151 #[.pointer (some ⟨rb, ro, none⟩), .slice pa P.length pc, .int .i64 (1 - (pn : Int))] W fun e w' => e = .returned (.int .i64 sd) ∧ W = w') := fun W hW => by
    rw [hsd, ← hqn]; exact l04Side_c rb ro r hb qn hqn1 P hlen ha pa pc W (hr.below hW hrb) (hP.below hW (Nat.le_refl _))
  obtain ⟨b, o, rfl, hbs, hcs⟩ := Ints.open hP (by omega)
  have HCS := Lib.hid hcs
  have HR0 := Lib.hid hr
  have HS0 := Lib.hid hs
  clear hl hsd hqn hcs hpo hr hs
  go_enter Try.func148, Try.ntmps148
  go_wp2_with fail
  refine HTK.out.mono ?_
  rintro e w2 ⟨la, lc, rfl, hol, hb2⟩
  have F2 := (Fr.from hb2).own hol
  obtain ⟨lo2, hlo2⟩ : ∃ n, n = w.heap.size := ⟨_, rfl⟩
  obtain ⟨hi2, hhi2⟩ : ∃ n, n = w2.heap.size := ⟨_, rfl⟩
  have hF2 : Hid (Fr w w2 [⟨lo2, hi2, RowP lo2 hi2 la lc l⟩]) := by rw [hlo2, hhi2]; exact F2
  clear F2 hol hb2 hlo2 hhi2
  go_wp2
  go_loopw [8, 9] (fun g i wr => ∃ k : Nat, k ≤ l.length ∧ i = .int .i64 k ∧ g = .int .i64 (goneP r pn P (l.take k)) ∧ Fr w wr [⟨lo2, hi2, RowP lo2 hi2 la lc l⟩]) (fun _ i _ => l.length - (intOf i).toNat)
  case atStart => exact ⟨0, Nat.zero_le _, rfl, by simp [goneP, gainP], hF2.out⟩
  case round =>
    clear hF2
    obtain ⟨k, hk, rfl, rfl, F⟩ := hrel
    obtain ⟨g0, g1⟩ := goneP_bd r pn hbd (by omega) (l.take k)
    have glen : (l.take k).length ≤ 16 := by simp; omega
    have g2 : goneP r pn P (l.take k) ≤ 96 * 16 := by omega
    obtain ⟨gv, hgv⟩ : ∃ gv, gv = goneP r pn P (l.take k) := ⟨_, rfl⟩
    rw [← hgv] at g0 g2 ⊢
    obtain ⟨d0, d1, d2, d3⟩ := HS0.out.below F.below hsb
    have hrr := HR0.out.below F.below hrb
    by_cases hlt : k < l.length
    · have hSC := Lib.hid (goneP_succ r pn P l hlt)
      rw [← hgv] at hSC
      obtain ⟨hx0, hx1⟩ := lok l[k] (List.getElem_mem hlt)
      obtain ⟨x, hx⟩ : ∃ x : Nat, l[k] = x := ⟨l[k].toNat, by omega⟩
      have hxl : x < P.length := by omega
      rw [hx] at hSC
      have hrow : Ints _ la l := own_row (F.at 0 rfl).1
      obtain ⟨b', o', rfl, hb', hcl⟩ := Ints.open hrow (by omega)
      have hcx := hcl k hlt
      rw [hx] at hcx
      obtain ⟨v, hv⟩ : ∃ v, v = P[x] := ⟨_, rfl⟩
      have hvb : 0 ≤ v ∧ v ≤ 96 := by rw [hv]; exact bdL_get hbd hxl
      obtain ⟨v0, v9⟩ := hvb
      have hcv : wr.cell? ⟨b, o + x, none⟩ = some (.int .i64 v) := (F.below.cell (show (Addr.mk b (o + x) none).block < _ from hbs)).trans (by rw [hv]; exact HCS.out x hxl)
      have hPv : P.getD (x : Int).toNat 0 = v := by rw [hv]; simp [hxl]
      rw [hPv] at hSC
      obtain ⟨q, hq⟩ : ∃ q, q = (x : Int) / r.pits := ⟨_, rfl⟩
      have HOW := Lib.hid (l02Owner_c rb ro r x wr hrr hb (by omega))
      rw [← hq] at HOW hSC
      clear hcl hrow hx hv hPv hq hgv hx0 hx1 hrr
      by_cases ho : q = pn
      · have hE : Hid (goneP r pn P (l.take (k + 1)) = gv) := by unfold Hid; rw [hSC.out, if_pos ho]; simp
        have hne : (q != (pn : Int)) = false := by simpa using ho
        clear ho hSC
        go_wp2_with (go_at_call 155; refine HOW.out.mono ?_; rintro e w' ⟨rfl, rfl⟩)
        go_roundw
        case rel => exact ⟨k + 1, by omega, by go_num, by rw [hE.out], F⟩
        case measure => simp [intOf]; omega
      · have hE : Hid (goneP r pn P (l.take (k + 1)) = gv + v) := by unfold Hid; rw [hSC.out, if_neg ho]
        have hne : (q != (pn : Int)) = true := by simpa using ho
        clear ho hSC
        go_wp2_with (go_at_call 155; refine HOW.out.mono ?_; rintro e w' ⟨rfl, rfl⟩)
        go_region
        go_wp2
        go_roundw
        case rel => exact ⟨k + 1, by omega, by go_num, by rw [hE.out], F.drawn _⟩
        case measure => simp [intOf]; omega
    · have he : l.take k = l := List.take_of_length_le (by omega)
      rw [he] at hgv
      have HG := Lib.hid hgv
      have HSD2 := Lib.hid (HSD.out _ F.below)
      clear he hgv g1 hrr
      by_cases h1 : 0 < gv
      · have h1' : gv > 0 := h1
        by_cases h2 : gv = sd
        · have h2' : (gv == sd) = true := by simpa using h2
          have HH := Lib.hid (⟨h1, h2⟩ : 0 < gv ∧ gv = sd)
          clear h1 h2
          go_wp2_with (go_at_call 151; refine HSD2.out.mono ?_; rintro e w' ⟨rfl, rfl⟩)
          go_ret
          exact ⟨by rw [HSL.out, ← HG.out]; refine ret_bool ?_; have a1 := HH.out.1; have a2 := HH.out.2; simp [a2]; omega, F.below⟩
        · have h2' : (gv == sd) = false := by simpa using h2
          have HH := Lib.hid h2
          clear h1 h2
          go_wp2_with (go_at_call 151; refine HSD2.out.mono ?_; rintro e w' ⟨rfl, rfl⟩)
          go_ret
          exact ⟨by rw [HSL.out, ← HG.out]; refine ret_bool ?_; simp; intro _; exact HH.out, F.below⟩
      · have h1' : ¬ gv > 0 := h1
        have HH := Lib.hid h1
        clear h1
        go_wp2
        go_ret
        exact ⟨by rw [HSL.out, ← HG.out]; refine ret_bool ?_; simp; intro h; exact absurd h (by have := HH.out; omega), F.below⟩

set_option maxRecDepth 100000 in
set_option maxHeartbeats 4000000 in
theorem l06Pits_c (rb ro b0 o0 : Nat) (r : R) (hb : r.Bd) (pn : Nat) (hp : pn ≤ 1) (P S : List Int) (last laps : Int) (pa sa : Option Addr) (pc sc : Nat) (w : World) (hr : R.At w rb ro r) (hs : SnA w b0 o0 P S last laps pa pc sa sc) (hP : Ints w pa P) (hlen : (P.length : Int) = 2 * r.pits) (hpo : PlaceOk r last) (ha : allIn P = true) :
    Calls Try.prog 116 #[.pointer (some ⟨rb, ro, none⟩), .pointer (some ⟨b0, o0, none⟩), .int .i64 (pn : Int)] w (IntsRes w (capP r pn P last)) := by
  have hbd : bdL P 1000000 := fun n hn => by have := allIn_get ha hn; omega
  have hrb : rb < w.heap.size := World.block_lt_of_cell? w _ hr.c0
  have hsb : b0 < w.heap.size := World.block_lt_of_cell? w _ hs.c0
  have HTK : Hid (∀ W, Below w.heap.size w W → Calls Try.prog 117 #[.pointer (some ⟨rb, ro, none⟩), .pointer (some ⟨b0, o0, none⟩), .int .i64 (pn : Int)] W (IntsRes W (rawP r pn P last))) := fun W hW =>
    l06Raw_c rb ro b0 o0 r hb pn hp P S last laps pa sa pc sc W (hr.below hW hrb) (hs.below hW hsb) (hP.below hW (Nat.le_refl _)) hlen hpo hbd
  have HSM := Lib.hid (l06Slam_c rb ro b0 o0 r hb pn hp P S last laps pa sa pc sc w hr hs hP hlen hpo ha)
  have c8 := hr.c8
  obtain ⟨sl, hsl⟩ : ∃ sl, sl = slamP r pn P last := ⟨_, rfl⟩
  rw [← hsl] at HSM
  have D0 := Below.refl w.heap.size w
  by_cases hk : r.slam = 2
  case neg =>
    have HE : Hid (capP r pn P last = rawP r pn P last) := by unfold Hid capP; rw [if_neg (fun h => hk h.1)]
    have hk1 : (r.slam == 2) = false := by simpa using hk
    clear hk hsl
    go_enter Try.func116, Try.ntmps116
    go_wp2_with fail
    refine (HTK.out _ D0).mono ?_
    rintro e w2 ⟨la, lc, rfl, hol, hb2⟩
    go_wp2
    go_ret
    rw [HE.out]
    exact ⟨la, lc, rfl, hol, hb2⟩
  have hk1 : (r.slam == 2) = true := by simpa using hk
  cases sl
  · have HE : Hid (capP r pn P last = rawP r pn P last) := by unfold Hid capP; rw [if_neg (fun h => by rw [← hsl] at h; exact absurd h.2 (by simp))]
    clear hk hsl
    go_enter Try.func116, Try.ntmps116
    go_wp2_with fail
    refine HSM.out.mono ?_
    rintro e w1 ⟨rfl, hb1⟩
    go_wp2_with fail
    refine (HTK.out _ hb1).mono ?_
    rintro e w2 ⟨la, lc, rfl, hol, hb2⟩
    go_wp2
    go_ret
    rw [HE.out]
    exact ⟨la, lc, rfl, ownsRow_le hol hb1.size, below_next hb1 hb2⟩
  · have HE : Hid (capP r pn P last = []) := by unfold Hid capP; rw [if_pos ⟨hk, hsl.symm⟩]
    clear hk hsl
    go_enter Try.func116, Try.ntmps116
    go_wp2_with fail
    refine HSM.out.mono ?_
    rintro e w1 ⟨rfl, hb1⟩
    go_wp2
    go_ret
    rw [HE.out]
    exact ⟨_, _, rfl, by have := own_none w1 w.heap.size hb1.size; simpa using this, hb1.alloc hb1.size _⟩

end Go.Proofs.Ytbjgigdkbjabaaa
