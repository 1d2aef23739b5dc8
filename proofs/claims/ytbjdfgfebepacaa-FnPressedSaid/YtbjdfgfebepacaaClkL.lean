/- ClkL: what a clock shows, and when its flag falls: both sides' functions. Each contract holds for every argument, under the premises that it states. -/
import Derived.Test.YtbjdfgfebepacaaClock9
import Derived.Test.YtbjdfgfebepacaaSets
namespace Go.Proofs.Ytbjdfgfebepacaa
set_option linter.unusedSimpArgs false
set_option linter.unusedVariables false
set_option linter.unnecessarySimpa false
open Go.RowKit Go.ChangeShapes Go.WideShapes Go.ChangeAt Go.Joins

def fallsP (x : Ck) : Int × Int :=
  if x.ok = false then (0, 1) else if x.running = false then (0, 6) else match x.left with | [p, q] => (x.since + x.delay + pick2 x.player p q, 0) | _ => (0, 0)
def leftAtP (x : Ck) (pl now : Int) : Int × Int :=
  if x.ok = false then (0, 1) else if (inB pl 0 1 && inB now x.since 36000000) = false then (0, 2) else match x.left with | [p, q] => (if x.running = true ∧ pl = x.player then leftQ x p q now else pick2 pl p q, 0) | _ => (0, 0)

set_option maxRecDepth 100000 in
set_option maxHeartbeats 4000000 in
theorem iFallsAt_c (x : Ck) (a : Option Addr) (c : Nat) (w : World) (h : Ints w a x.left) (hm : x.left.length ≤ 16777216) :
    Calls Try.prog 32 #[x.val a c] w fun e w' => e = .returned (.tuple #[.int .i64 (fallsP x).1, .int .i64 (fallsP x).2]) ∧ Below w.heap.size w w' := by
  have F0 := (Fr.start w).alloc (x.cells a c) 53
  obtain ⟨y, hy⟩ : ∃ y, y = fallsP x := ⟨_, rfl⟩
  rw [← hy]
  have HV := fun W (H : Ints W a x.left) => ValidClock_c x a c W H (by unfold maxLen; omega)
  cases hok : x.ok
  · simp only [hok] at HV
    have HV := Lib.hid HV
    have HE : Hid (y = (0, 1)) := by unfold Hid; rw [hy, fallsP, hok]; rfl
    clear hok hy
    go_enter Try.func32, Try.ntmps32
    go_wp2_with fail
    refine (HV.out _ (h.below F0.below (Nat.le_refl _))).mono ?_
    rintro e w1 ⟨rfl, hb1⟩
    have F1 := F0.step hb1
    clear hb1 F0
    go_wp2
    go_ret2
    rw [HE.out]
    exact ⟨rfl, F1.below⟩
  · obtain ⟨p, q, hl, hp, hq, hi, hd, hs, hpl⟩ := Ck.ok_parts hok
    obtain ⟨xl, xi, xd, xp, xs, xr, xf⟩ := x
    dsimp only at hl hp hq hi hd hs hpl
    subst hl
    simp only [hok] at HV
    have HV := Lib.hid HV
    have HH := Lib.hid h
    cases xr
    · have HE : Hid (y = (0, 6)) := by unfold Hid; rw [hy, fallsP, hok]; rfl
      clear hok hy
      go_enter Try.func32, Try.ntmps32
      go_wp2_with fail
      refine (HV.out _ (HH.out.below F0.below (Nat.le_refl _))).mono ?_
      rintro e w1 ⟨rfl, hb1⟩
      have F1 := F0.step hb1
      obtain ⟨c0, c1, c2, c3, c4, c5, c6⟩ := Ck.boxc (F1.at 0 rfl)
      have zA : w.heap.size < w1.heap.size := F1.le 0 rfl
      clear hb1 F0
      go_wp2
      go_ret2
      rw [HE.out]
      exact ⟨rfl, F1.below⟩
    · have HE : Hid (y = (xs + xd + pick2 xp p q, 0)) := by unfold Hid; rw [hy, fallsP, hok]; rfl
      clear hok hy
      have hx : xp = 0 ∨ xp = 1 := by omega
      rcases hx with rfl | rfl
      all_goals
        go_enter Try.func32, Try.ntmps32
        go_wp2_with fail
        refine (HV.out _ (HH.out.below F0.below (Nat.le_refl _))).mono ?_
        rintro e w1 ⟨rfl, hb1⟩
        have F1 := F0.step hb1
        obtain ⟨c0, c1, c2, c3, c4, c5, c6⟩ := Ck.boxc (F1.at 0 rfl)
        obtain ⟨b, o, ha, hbl, k0, k1⟩ := ints_two (HH.out.below F1.below (Nat.le_refl _))
        subst ha
        have zA : w.heap.size < w1.heap.size := F1.le 0 rfl
        clear hb1 F0
        go_wp2
        go_quiet (fail)
        go_wp2
        go_ret2
        rw [HE.out]
        exact ⟨rfl, F1.below.trans (below_draws _ _ _)⟩

theorem ck_at {w : World} {b : Nat} {x : Ck} {a : Option Addr} {c : Nat} (h : BoxP b (x.cells a c).toList w) : Ck.At w b 0 x a c := by
  obtain ⟨c0, c1, c2, c3, c4, c5, c6⟩ := Ck.boxc h
  exact ⟨c0, c1, c2, c3, c4, c5, c6⟩
set_option maxRecDepth 100000 in
set_option maxHeartbeats 4000000 in
theorem sFallsAt_c (x : Ck) (a : Option Addr) (c : Nat) (w : World) (h : Ints w a x.left) (hm : x.left.length ≤ 16777216) :
    Calls Try.prog 33 #[x.val a c] w fun e w' => e = .returned (.tuple #[.int .i64 (fallsP x).1, .int .i64 (fallsP x).2]) ∧ Below w.heap.size w w' := by
  have F0 := (Fr.start w).alloc (x.cells a c) 53
  obtain ⟨y, hy⟩ : ∃ y, y = fallsP x := ⟨_, rfl⟩
  rw [← hy]
  have HV := fun W (A : Ck.At W w.heap.size 0 x a c) (H : Ints W a x.left) => l23Ok_c w.heap.size 0 x a c W A H (by unfold maxLen; omega)
  cases hok : x.ok
  · simp only [hok] at HV
    have HV := Lib.hid HV
    have HE : Hid (y = (0, 1)) := by unfold Hid; rw [hy, fallsP, hok]; rfl
    clear hok hy
    go_enter Try.func33, Try.ntmps33
    go_wp2_with fail
    refine (HV.out _ (ck_at (F0.at 0 rfl)) (h.below F0.below (Nat.le_refl _))).mono ?_
    rintro e w1 ⟨rfl, n1, hw1⟩
    have F1 := F0.drawn n1
    rw [← hw1] at F1
    have zA : w.heap.size < w1.heap.size := F1.le 0 rfl
    clear F0 hw1
    go_wp2
    go_ret2
    rw [HE.out]
    exact ⟨rfl, F1.below⟩
  · obtain ⟨p, q, hl, hp, hq, hi, hd, hs, hpl⟩ := Ck.ok_parts hok
    obtain ⟨xl, xi, xd, xp, xs, xr, xf⟩ := x
    dsimp only at hl hp hq hi hd hs hpl
    subst hl
    simp only [hok] at HV
    have HV := Lib.hid HV
    have HH := Lib.hid h
    cases xr
    · have HE : Hid (y = (0, 6)) := by unfold Hid; rw [hy, fallsP, hok]; rfl
      clear hok hy
      go_enter Try.func33, Try.ntmps33
      go_wp2_with fail
      refine (HV.out _ (ck_at (F0.at 0 rfl)) (HH.out.below F0.below (Nat.le_refl _))).mono ?_
      rintro e w1 ⟨rfl, n1, hw1⟩
      have F1 := F0.drawn n1
      rw [← hw1] at F1
      have zA : w.heap.size < w1.heap.size := F1.le 0 rfl
      obtain ⟨c0, c1, c2, c3, c4, c5, c6⟩ := Ck.boxc (F1.at 0 rfl)
      clear F0 hw1
      go_wp2
      go_ret2
      rw [HE.out]
      exact ⟨rfl, F1.below⟩
    · have HE : Hid (y = (xs + xd + pick2 xp p q, 0)) := by unfold Hid; rw [hy, fallsP, hok]; rfl
      clear hok hy
      have hx : xp = 0 ∨ xp = 1 := by omega
      rcases hx with rfl | rfl
      all_goals
        go_enter Try.func33, Try.ntmps33
        go_wp2_with fail
        refine (HV.out _ (ck_at (F0.at 0 rfl)) (HH.out.below F0.below (Nat.le_refl _))).mono ?_
        rintro e w1 ⟨rfl, n1, hw1⟩
        have F1 := F0.drawn n1
        rw [← hw1] at F1
        have zA : w.heap.size < w1.heap.size := F1.le 0 rfl
        obtain ⟨c0, c1, c2, c3, c4, c5, c6⟩ := Ck.boxc (F1.at 0 rfl)
        obtain ⟨b, o, ha, hbl, k0, k1⟩ := ints_two (HH.out.below F1.below (Nat.le_refl _))
        subst ha
        clear F0 hw1
        go_wp2
        go_quiet (fail)
        go_wp2
        go_ret2
        rw [HE.out]
        exact ⟨rfl, F1.below.trans (below_draws _ _ _)⟩


set_option maxHeartbeats 1000000 in
theorem f6ints_c (a b : Option Addr) (c d : Nat) (xs ys : List Int) (w : World) (ha : Ints w a xs) (hb : Ints w b ys) (hm : xs.length ≤ maxLen) (hm' : ys.length ≤ maxLen) :
    Calls Try.prog 49 #[.slice a xs.length c, .slice b ys.length d] w fun e w' => e = .returned (.bool (decide (xs = ys))) ∧ ∃ m, w' = w.drewN m := by
  unfold maxLen at hm hm'
  by_cases hl : xs.length = ys.length
  · have HL := Lib.hid hl
    have hT : ((xs.length : Int) != ys.length) = false := by simp [hl]
    clear hl
    go_enter Try.func49, Try.ntmps49
    go_wp2
    go_loopw [5] (fun i wr => ∃ k : Nat, k ≤ xs.length ∧ i = .int .i64 k ∧ Hid (∀ j (h : j < k) (h1 : j < xs.length) (h2 : j < ys.length), xs[j] = ys[j]) ∧ ∃ m, wr = w.drewN m) (fun i _ => xs.length - (intOf i).toNat)
    case atStart => exact ⟨0, Nat.zero_le _, rfl, fun j h => absurd h (by omega), 0, rfl⟩
    case round =>
      obtain ⟨k, hk, rfl, hne, m, rfl⟩ := hrel
      by_cases hlt : k < xs.length
      · have hlt' : k < ys.length := by have := HL.out; omega
        obtain ⟨b1, o1, rfl, hb1, hc1⟩ := Ints.at ha hlt
        obtain ⟨b2, o2, rfl, hb2, hc2⟩ := Ints.at hb hlt'
        go_wp2
        go_quiet (fail)
        go_wp2
        · have hne' : (xs[k] != ys[k]) = true := by assumption
          go_ret
          refine ⟨ret_bool (decide_eq_false (fun e => ?_)).symm, by first | exact ⟨_, rfl⟩ | exact ⟨_, World.drewN_drewN ..⟩⟩
          subst e
          simp at hne'
        · have he : (xs[k] != ys[k]) = false := by assumption
          go_roundw
          case rel =>
            refine ⟨k + 1, by omega, by go_num, fun j h h1 h2 => ?_, _, rfl⟩
            by_cases e : j = k
            · subst e; simpa using he
            · exact hne.out j (by omega) h1 h2
          case measure => simp [intOf]; omega
      · go_wp2
        go_ret
        refine ⟨ret_bool (decide_eq_true (list_eq_of HL.out (fun j h1 h2 => hne.out j (by omega) h1 h2))).symm, _, rfl⟩
  · have hT : ((xs.length : Int) != ys.length) = true := by rw [bne_iff_ne]; omega
    have hF : decide (xs = ys) = false := decide_eq_false (fun e => hl (by rw [e]))
    have HF := Lib.hid hF
    clear hF hl
    go_enter Try.func49, Try.ntmps49
    go_wp2
    go_ret
    exact ⟨by rw [HF.out]; rfl, 0, rfl⟩

theorem f6big_c (ca : Option Addr) (n cc : Nat) (w : World) (hn : n ≤ maxLen) :
    Calls Try.prog 12 #[.slice ca n cc] w fun e w' => e = .returned (.bool (decide (4096 < (n : Int)))) ∧ w = w' := by
  unfold maxLen at hn
  by_cases h1 : 4096 < (n : Int)
  · go_enter Try.func12, Try.ntmps12
    go_wp2
    go_ret
    exact ⟨by first | rfl | (rw [decide_eq_true h1]; rfl), rfl⟩
  · go_enter Try.func12, Try.ntmps12
    go_wp2
    go_ret
    exact ⟨by first | rfl | (rw [decide_eq_false (by omega)]; rfl), rfl⟩

set_option maxHeartbeats 2000000 in
theorem sValidClock_c (x : Ck) (a : Option Addr) (c : Nat) (w : World) (h : Ints w a x.left) (hm : x.left.length ≤ maxLen) :
    Calls Try.prog 39 #[x.val a c] w fun e w' => e = .returned (.bool x.ok) ∧ Below w.heap.size w w' := by
  have F0 := (Fr.start w).alloc (x.cells a c) 53
  have HV := Lib.hid (l23Ok_c w.heap.size 0 x a c _ (ck_at (F0.at 0 rfl)) (h.below F0.below (Nat.le_refl _)) hm)
  go_enter Try.func39, Try.ntmps39
  go_wp2_with fail
  refine HV.out.mono ?_
  rintro e w1 ⟨rfl, n1, rfl⟩
  go_wp2
  go_ret
  exact ⟨rfl, F0.below.trans (below_draws _ _ n1)⟩

set_option maxRecDepth 100000 in
set_option maxHeartbeats 4000000 in
theorem sSameClock_c (x : Ck) (a b : Option Addr) (c d : Nat) (w : World) (hx : Ints w a x.left) (hy : Ints w b x.left) (hm : x.left.length ≤ maxLen) :
    Calls Try.prog 37 #[x.val a c, x.val b d] w fun e w' => e = .returned (.bool true) ∧ Below w.heap.size w w' := by
  have HC := l00Same_c a b c d x.left x.left ((w.alloc (.cells (x.cells a c) 53)).alloc (.cells (x.cells b d) 53)) (hx.below (below_alloc2 _ _ _) (Nat.le_refl _)) (hy.below (below_alloc2 _ _ _) (Nat.le_refl _)) hm hm
  rw [decide_eq_true rfl] at HC
  have HC := Lib.hid HC
  clear hx hy
  obtain ⟨xl, xi, xd, xp, xs, xr, xf⟩ := x
  cases xr <;> cases xf
  all_goals
    go_enter Try.func37, Try.ntmps37
    go_wp2_with fail
    refine HC.out.mono ?_
    rintro e w1 ⟨rfl, n1, rfl⟩
    go_wp2
    go_ret
    exact ⟨rfl, (below_alloc2 _ _ _).trans (below_draws _ _ n1)⟩

set_option maxRecDepth 100000 in
set_option maxHeartbeats 4000000 in
theorem taken0_c (x : Ck) (hr : x.running = false) (a : Option Addr) (c : Nat) (now : Int) (w : World) :
    Calls Try.prog 126 #[x.val a c, .int .i64 now] w fun e w' => e = .returned (.int .i64 0) ∧ Below w.heap.size w w' := by
  obtain ⟨xl, xi, xd, xp, xs, xr, xf⟩ := x
  dsimp only at hr
  subst hr
  go_enter Try.func126, Try.ntmps126
  go_wp2
  go_ret
  exact ⟨rfl, below_alloc1 _ _⟩
theorem leftQ_bd (x : Ck) (p q now : Int) (hp : 0 ≤ p ∧ p ≤ 36000000) (hq : 0 ≤ q ∧ q ≤ 36000000) : 0 ≤ leftQ x p q now ∧ leftQ x p q now ≤ 36000000 ∧ 0 ≤ pick2 x.player p q - leftQ x p q now := by
  unfold leftQ pick2; split <;> omega
set_option maxRecDepth 100000 in
set_option maxHeartbeats 8000000 in
theorem iLeftAt_c (x : Ck) (a : Option Addr) (c : Nat) (pl now : Int) (w : World) (h : Ints w a x.left) (hm : x.left.length ≤ 16777216) :
    Calls Try.prog 35 #[x.val a c, .int .i64 pl, .int .i64 now] w fun e w' => e = .returned (.tuple #[.int .i64 (leftAtP x pl now).1, .int .i64 (leftAtP x pl now).2]) ∧ Below w.heap.size w w' := by
  have F0 := (Fr.start w).alloc (x.cells a c) 53
  obtain ⟨y, hy⟩ : ∃ y, y = leftAtP x pl now := ⟨_, rfl⟩
  rw [← hy]
  have HV := fun W (H : Ints W a x.left) => ValidClock_c x a c W H (by unfold maxLen; omega)
  cases hok : x.ok
  · simp only [hok] at HV
    have HV := Lib.hid HV
    have HE : Hid (y = (0, 1)) := by unfold Hid; rw [hy, leftAtP, hok]; rfl
    clear hok hy
    go_enter Try.func35, Try.ntmps35
    go_wp2_with fail
    refine (HV.out _ (h.below F0.below (Nat.le_refl _))).mono ?_
    rintro e w1 ⟨rfl, hb1⟩
    have F1 := F0.step hb1
    clear hb1 F0
    go_wp2
    go_ret2
    rw [HE.out]
    exact ⟨rfl, F1.below⟩
  obtain ⟨p, q, hl, hp, hq, hi, hd, hs, hpl⟩ := Ck.ok_parts hok
  simp only [hok] at HV
  have HV := Lib.hid HV
  have HH := Lib.hid h
  have HY : Hid (y = if (inB pl 0 1 && inB now x.since 36000000) = false then (0, 2) else (if x.running = true ∧ pl = x.player then leftQ x p q now else pick2 pl p q, 0)) := by unfold Hid; rw [hy, leftAtP, hok, hl]; rfl
  clear hy hok h
  obtain ⟨xl, xi, xd, xp, xs, xr, xf⟩ := x
  dsimp only at hl hp hq hi hd hs hpl HY
  subst hl
  cases hip : inB pl 0 1
  · have HE : Hid (y = (0, 2)) := by unfold Hid; rw [HY.out, hip]; rfl
    have HI := Lib.hid hip
    clear hip
    go_enter Try.func35, Try.ntmps35
    go_wp2_with fail
    refine (HV.out _ (HH.out.below F0.below (Nat.le_refl _))).mono ?_
    rintro e w1 ⟨rfl, hb1⟩
    have F1 := F0.step hb1
    obtain ⟨c0, c1, c2, c3, c4, c5, c6⟩ := Ck.boxc (F1.at 0 rfl)
    have zA : w.heap.size < w1.heap.size := F1.le 0 rfl
    clear hb1 F0
    go_wp2_with fail
    refine (isPlayer_c pl _).mono ?_
    rintro e w2 ⟨rfl, rfl⟩
    rw [HI.out]
    go_wp2
    go_ret2
    rw [HE.out]
    exact ⟨rfl, F1.below⟩
  cases hin : inB now xs 36000000
  · have HE : Hid (y = (0, 2)) := by unfold Hid; rw [HY.out, hip, hin]; rfl
    have HI := Lib.hid hip
    have HN := Lib.hid hin
    clear hip hin
    go_enter Try.func35, Try.ntmps35
    go_wp2_with fail
    refine (HV.out _ (HH.out.below F0.below (Nat.le_refl _))).mono ?_
    rintro e w1 ⟨rfl, hb1⟩
    have F1 := F0.step hb1
    obtain ⟨c0, c1, c2, c3, c4, c5, c6⟩ := Ck.boxc (F1.at 0 rfl)
    have zA : w.heap.size < w1.heap.size := F1.le 0 rfl
    clear hb1 F0
    go_wp2_with fail
    refine (isPlayer_c pl _).mono ?_
    rintro e w2 ⟨rfl, rfl⟩
    rw [HI.out]
    go_wp2_with fail
    refine (isNow_c ⟨[p, q], xi, xd, xp, xs, xr, xf⟩ a c now _).mono ?_
    rintro e w3 ⟨rfl, hb3⟩
    rw [HN.out]
    have F3 := F1.step hb3
    clear hb3 F1 c0 c1 c2 c3 c4 c5 c6
    go_wp2
    go_ret2
    rw [HE.out]
    exact ⟨rfl, F3.below⟩
  have HE : Hid (y = (if xr = true ∧ pl = xp then leftQ ⟨[p, q], xi, xd, xp, xs, xr, xf⟩ p q now else pick2 pl p q, 0)) := by unfold Hid; rw [HY.out, hip, hin]; rfl
  have hpb := inB_iff.1 hip
  have hnb := inB_iff.1 hin
  have HI := Lib.hid hip
  have HN := Lib.hid hin
  clear hip hin HY
  by_cases hpx : pl = xp
  case neg =>
    have hd1 : (pl != xp) = true := by simpa using hpx
    have HE2 : Hid (y = (pick2 pl p q, 0)) := by unfold Hid; rw [HE.out, if_neg (fun e => hpx e.2)]
    have hx : pl = 0 ∨ pl = 1 := by omega
    clear HE hpx
    rcases hx with rfl | rfl
    all_goals
      go_enter Try.func35, Try.ntmps35
      go_wp2_with fail
      refine (HV.out _ (HH.out.below F0.below (Nat.le_refl _))).mono ?_
      rintro e w1 ⟨rfl, hb1⟩
      have F1 := F0.step hb1
      obtain ⟨c0, c1, c2, c3, c4, c5, c6⟩ := Ck.boxc (F1.at 0 rfl)
      have zA : w.heap.size < w1.heap.size := F1.le 0 rfl
      clear hb1 F0
      go_wp2_with fail
      refine (isPlayer_c _ _).mono ?_
      rintro e w2 ⟨rfl, rfl⟩
      rw [HI.out]
      go_wp2_with fail
      refine (isNow_c ⟨[p, q], xi, xd, xp, xs, xr, xf⟩ a c now _).mono ?_
      rintro e w3 ⟨rfl, hb3⟩
      rw [HN.out]
      have F3 := F1.step hb3
      clear hb3 F1 c0 c1 c2 c3 c4 c5 c6
      obtain ⟨c0, c1, c2, c3, c4, c5, c6⟩ := Ck.boxc (F3.at 0 rfl)
      obtain ⟨b, o, ha, hbl, k0, k1⟩ := ints_two (HH.out.below F3.below (Nat.le_refl _))
      subst ha
      go_wp2
      go_ret2
      rw [HE2.out]
      exact ⟨rfl, F3.below⟩
  subst hpx
  have hd1 : (pl != pl) = false := by simp
  have HT := fun W (H : Ints W a [p, q]) => taken_c p q xi xd pl xs xf a c now W H hp hq hd hs hnb hpl
  have HT0 := fun W => taken0_c ⟨[p, q], xi, xd, pl, xs, false, xf⟩ rfl a c now W
  have hte := taken_eq ⟨[p, q], xi, xd, pl, xs, xr, xf⟩ p q now hp.1 hq.1
  have hbd := leftQ_bd ⟨[p, q], xi, xd, pl, xs, xr, xf⟩ p q now hp hq
  dsimp only at hte hbd
  obtain ⟨v, hv⟩ : ∃ v, v = if xr = true then min (max (now - xs - xd) 0) (pick2 pl p q) else 0 := ⟨_, rfl⟩
  have HV2 : Hid (∀ W, Ints W a [p, q] → Calls Try.prog 126 #[(Ck.mk [p, q] xi xd pl xs xr xf).val a c, .int .i64 now] W fun e w' => e = .returned (.int .i64 v) ∧ Below W.heap.size W w') := by
    intro W hW
    cases xr
    · rw [hv, if_neg (by simp)]; exact HT0 W
    · rw [hv, if_pos rfl]; exact HT W hW
  have HE2 : Hid (y = (pick2 pl p q - v, 0)) := by
    unfold Hid
    rw [HE.out, hv]
    cases xr
    · rw [if_neg (by simp), if_neg (by simp)]; simp
    · rw [if_pos ⟨rfl, rfl⟩, if_pos rfl, hte]
  have hvb : 0 ≤ v ∧ v ≤ pick2 pl p q := by
    rw [hv]
    split
    · have : pick2 pl p q = p ∨ pick2 pl p q = q := by unfold pick2; split <;> simp
      omega
    · have : pick2 pl p q = p ∨ pick2 pl p q = q := by unfold pick2; split <;> simp
      omega
  have hx : pl = 0 ∨ pl = 1 := by omega
  clear HE hv hte hbd HT HT0
  rcases hx with rfl | rfl
  · rw [show pick2 0 p q = p from rfl] at hvb HE2
    go_enter Try.func35, Try.ntmps35
    go_wp2_with fail
    refine (HV.out _ (HH.out.below F0.below (Nat.le_refl _))).mono ?_
    rintro e w1 ⟨rfl, hb1⟩
    have F1 := F0.step hb1
    obtain ⟨c0, c1, c2, c3, c4, c5, c6⟩ := Ck.boxc (F1.at 0 rfl)
    have zA : w.heap.size < w1.heap.size := F1.le 0 rfl
    clear hb1 F0
    go_wp2_with fail
    refine (isPlayer_c _ _).mono ?_
    rintro e w2 ⟨rfl, rfl⟩
    rw [HI.out]
    go_wp2_with fail
    refine (isNow_c ⟨[p, q], xi, xd, _, xs, xr, xf⟩ a c now _).mono ?_
    rintro e w3 ⟨rfl, hb3⟩
    rw [HN.out]
    have F3 := F1.step hb3
    clear hb3 F1 c0 c1 c2 c3 c4 c5 c6
    obtain ⟨c0, c1, c2, c3, c4, c5, c6⟩ := Ck.boxc (F3.at 0 rfl)
    obtain ⟨b, o, ha, hbl, k0, k1⟩ := ints_two (HH.out.below F3.below (Nat.le_refl _))
    have HA := Lib.hid (HH.out.below F3.drew.below (Nat.le_refl _))
    subst ha

    go_upto_region 7 with fail
    refine heldH (S := fun W => W.cell? ⟨w.heap.size, 0, none⟩ = some (.slice (some ⟨b, o, none⟩) 2 c) ∧ W.cell? ⟨w.heap.size, 1, none⟩ = some (.int .i64 xi) ∧ W.cell? ⟨w.heap.size, 2, none⟩ = some (.int .i64 xd) ∧ W.cell? ⟨w.heap.size, 3, none⟩ = some (.int .i64 0) ∧ W.cell? ⟨w.heap.size, 4, none⟩ = some (.int .i64 xs) ∧ W.cell? ⟨w.heap.size, 5, none⟩ = some (.bool xr) ∧ W.cell? ⟨w.heap.size, 6, none⟩ = some (.bool xf) ∧ W.cell? ⟨b, o, none⟩ = some (.int .i64 p) ∧ W.cell? ⟨b, o + 1, none⟩ = some (.int .i64 q)) (n := 11) (listed := #[false, false, false, false, false, false, false, false, false, false, false]) (by kernel_rfl) (by rfl) (by rfl) ?_ (fun hHeld => ?_)
    (focus ((try dsimp only); (first | done | ((first | exact ⟨c0, c1, c2, c3, c4, c5, c6, k0, k1⟩ | exact ⟨(hc4 _ _ zC).trans c0, (hc4 _ _ zC).trans c1, (hc4 _ _ zC).trans c2, (hc4 _ _ zC).trans c3, (hc4 _ _ zC).trans c4, (hc4 _ _ zC).trans c5, (hc4 _ _ zC).trans c6, (hc4 _ _ zD).trans k0, (hc4 _ _ zD).trans k1⟩); done))))
    (refine takeH (i := 0) (v := ?_) (by decide +kernel) (by decide +kernel) (by kernel_rfl) (by rfl) (by exact fun _ _ _ h => h) (by rfl) ?_ (by assumption) ?_); rotate_left; (focus (intro w hSw; (try dsimp only at hSw); go_simp; (try with_reducible rfl); done)); (try simp only [Act.put, List.setIfInBounds_toArray, List.set_cons_zero, List.set_cons_succ])
    (refine takeH (i := 1) (v := ?_) (by decide +kernel) (by decide +kernel) (by kernel_rfl) (by rfl) (by exact fun _ _ _ h => h) (by rfl) ?_ (by assumption) ?_); rotate_left; (focus (intro w hSw; (try dsimp only at hSw); go_simp; (try with_reducible rfl); done)); (try simp only [Act.put, List.setIfInBounds_toArray, List.set_cons_zero, List.set_cons_succ])
    (refine takeH (i := 2) (v := ?_) (by decide +kernel) (by decide +kernel) (by kernel_rfl) (by rfl) (by exact fun _ _ _ h => h) (by rfl) ?_ (by assumption) ?_); rotate_left; (focus (intro w hSw; (try dsimp only at hSw); go_simp; (try with_reducible rfl); done)); (try simp only [Act.put, List.setIfInBounds_toArray, List.set_cons_zero, List.set_cons_succ])
    (refine takeH (i := 3) (v := ?_) (by decide +kernel) (by decide +kernel) (by kernel_rfl) (by rfl) (by exact fun _ _ _ h => h) (by rfl) ?_ (by assumption) ?_); rotate_left; (focus (intro w hSw; (try dsimp only at hSw); go_simp; (try with_reducible rfl); done)); (try simp only [Act.put, List.setIfInBounds_toArray, List.set_cons_zero, List.set_cons_succ])
    (refine takeH (i := 4) (v := ?_) (by decide +kernel) (by decide +kernel) (by kernel_rfl) (by rfl) (by exact fun _ _ _ h => h) (by rfl) ?_ (by assumption) ?_); rotate_left; (focus (intro w hSw; (try dsimp only at hSw); go_simp; (try with_reducible rfl); done)); (try simp only [Act.put, List.setIfInBounds_toArray, List.set_cons_zero, List.set_cons_succ])
    (refine takeH (i := 5) (v := ?_) (by decide +kernel) (by decide +kernel) (by kernel_rfl) (by rfl) (by exact fun _ _ _ h => h) (by rfl) ?_ (by assumption) ?_); rotate_left; (focus (intro w hSw; (try dsimp only at hSw); go_simp; (try with_reducible rfl); done)); (try simp only [Act.put, List.setIfInBounds_toArray, List.set_cons_zero, List.set_cons_succ])
    (refine takeH (i := 6) (v := ?_) (by decide +kernel) (by decide +kernel) (by kernel_rfl) (by rfl) (by exact fun _ _ _ h => h) (by rfl) ?_ (by assumption) ?_); rotate_left; (focus (intro w hSw; (try dsimp only at hSw); go_simp; (try with_reducible rfl); done)); (try simp only [Act.put, List.setIfInBounds_toArray, List.set_cons_zero, List.set_cons_succ])
    refine nextH (i := 7) (by decide +kernel) (by rfl) (by rfl) (fun K hK => ?_)
    (go_simp; go_at_call 126; (refine (HV2.out _ HA.out).mono ?_); (rintro e w4 ⟨rfl, hb4⟩); (have hc4 := (bcell hb4).1); (have zC : w.heap.size < w3.drew.heap.size := F3.le 0 rfl); (have zD : b < w3.drew.heap.size := hbl); (have HB4 := Lib.hid (below_next F3.drew.below hb4)))
    refine hK.out _ _ ?_ (fun hHeld' => ?_)
    (focus ((try dsimp only); (first | done | ((first | exact ⟨c0, c1, c2, c3, c4, c5, c6, k0, k1⟩ | exact ⟨(hc4 _ _ zC).trans c0, (hc4 _ _ zC).trans c1, (hc4 _ _ zC).trans c2, (hc4 _ _ zC).trans c3, (hc4 _ _ zC).trans c4, (hc4 _ _ zC).trans c5, (hc4 _ _ zC).trans c6, (hc4 _ _ zD).trans k0, (hc4 _ _ zD).trans k1⟩); done))))
    clear hK K hHeld
    have hHeld := hHeld'
    clear hHeld'
    (try simp only [Act.put, List.setIfInBounds_toArray, List.set_cons_zero, List.set_cons_succ])
    (refine takeH (i := 8) (v := ?_) (by decide +kernel) (by decide +kernel) (by kernel_rfl) (by rfl) (by exact fun _ _ _ h => h) (by rfl) ?_ (by assumption) ?_); rotate_left; (focus (intro w hSw; (try dsimp only at hSw); go_simp; (try with_reducible rfl); done)); (try simp only [Act.put, List.setIfInBounds_toArray, List.set_cons_zero, List.set_cons_succ])
    (refine takeH (i := 9) (v := ?_) (by decide +kernel) (by decide +kernel) (by kernel_rfl) (by rfl) (by exact fun _ _ _ h => h) (by rfl) ?_ (by assumption) ?_); rotate_left; (focus (intro w hSw; (try dsimp only at hSw); go_simp; (try with_reducible rfl); done)); (try simp only [Act.put, List.setIfInBounds_toArray, List.set_cons_zero, List.set_cons_succ])
    (refine takeH (i := 10) (v := ?_) (by decide +kernel) (by decide +kernel) (by kernel_rfl) (by rfl) (by exact fun _ _ _ h => h) (by rfl) ?_ (by assumption) ?_); rotate_left; (focus (intro w hSw; (try dsimp only at hSw); go_simp; (try with_reducible rfl); done)); (try simp only [Act.put, List.setIfInBounds_toArray, List.set_cons_zero, List.set_cons_succ])
    refine wpAnyH_done (by decide +kernel) ?_ _
    clear hHeld c0 c1 c2 c3 c4 c5 c6 hc4 hb4
    have e9 : IntKind.i64.wrap (p - v) = p - v := IntWalk.i64_in _ (by omega)
    have E9 := Lib.hid e9
    clear e9
    go_wp2
    go_ret2
    rw [HE2.out]
    exact ⟨by show Ending.returned (.tuple #[.int .i64 (IntKind.i64.wrap (p - v)), .int .i64 0]) = _; rw [E9.out], HB4.out⟩
  · rw [show pick2 1 p q = q from rfl] at hvb HE2
    go_enter Try.func35, Try.ntmps35
    go_wp2_with fail
    refine (HV.out _ (HH.out.below F0.below (Nat.le_refl _))).mono ?_
    rintro e w1 ⟨rfl, hb1⟩
    have F1 := F0.step hb1
    obtain ⟨c0, c1, c2, c3, c4, c5, c6⟩ := Ck.boxc (F1.at 0 rfl)
    have zA : w.heap.size < w1.heap.size := F1.le 0 rfl
    clear hb1 F0
    go_wp2_with fail
    refine (isPlayer_c _ _).mono ?_
    rintro e w2 ⟨rfl, rfl⟩
    rw [HI.out]
    go_wp2_with fail
    refine (isNow_c ⟨[p, q], xi, xd, _, xs, xr, xf⟩ a c now _).mono ?_
    rintro e w3 ⟨rfl, hb3⟩
    rw [HN.out]
    have F3 := F1.step hb3
    clear hb3 F1 c0 c1 c2 c3 c4 c5 c6
    obtain ⟨c0, c1, c2, c3, c4, c5, c6⟩ := Ck.boxc (F3.at 0 rfl)
    obtain ⟨b, o, ha, hbl, k0, k1⟩ := ints_two (HH.out.below F3.below (Nat.le_refl _))
    have HA := Lib.hid (HH.out.below F3.drew.below (Nat.le_refl _))
    subst ha

    go_upto_region 7 with fail
    refine heldH (S := fun W => W.cell? ⟨w.heap.size, 0, none⟩ = some (.slice (some ⟨b, o, none⟩) 2 c) ∧ W.cell? ⟨w.heap.size, 1, none⟩ = some (.int .i64 xi) ∧ W.cell? ⟨w.heap.size, 2, none⟩ = some (.int .i64 xd) ∧ W.cell? ⟨w.heap.size, 3, none⟩ = some (.int .i64 1) ∧ W.cell? ⟨w.heap.size, 4, none⟩ = some (.int .i64 xs) ∧ W.cell? ⟨w.heap.size, 5, none⟩ = some (.bool xr) ∧ W.cell? ⟨w.heap.size, 6, none⟩ = some (.bool xf) ∧ W.cell? ⟨b, o, none⟩ = some (.int .i64 p) ∧ W.cell? ⟨b, o + 1, none⟩ = some (.int .i64 q)) (n := 11) (listed := #[false, false, false, false, false, false, false, false, false, false, false]) (by kernel_rfl) (by rfl) (by rfl) ?_ (fun hHeld => ?_)
    (focus ((try dsimp only); (first | done | ((first | exact ⟨c0, c1, c2, c3, c4, c5, c6, k0, k1⟩ | exact ⟨(hc4 _ _ zC).trans c0, (hc4 _ _ zC).trans c1, (hc4 _ _ zC).trans c2, (hc4 _ _ zC).trans c3, (hc4 _ _ zC).trans c4, (hc4 _ _ zC).trans c5, (hc4 _ _ zC).trans c6, (hc4 _ _ zD).trans k0, (hc4 _ _ zD).trans k1⟩); done))))
    (refine takeH (i := 0) (v := ?_) (by decide +kernel) (by decide +kernel) (by kernel_rfl) (by rfl) (by exact fun _ _ _ h => h) (by rfl) ?_ (by assumption) ?_); rotate_left; (focus (intro w hSw; (try dsimp only at hSw); go_simp; (try with_reducible rfl); done)); (try simp only [Act.put, List.setIfInBounds_toArray, List.set_cons_zero, List.set_cons_succ])
    (refine takeH (i := 1) (v := ?_) (by decide +kernel) (by decide +kernel) (by kernel_rfl) (by rfl) (by exact fun _ _ _ h => h) (by rfl) ?_ (by assumption) ?_); rotate_left; (focus (intro w hSw; (try dsimp only at hSw); go_simp; (try with_reducible rfl); done)); (try simp only [Act.put, List.setIfInBounds_toArray, List.set_cons_zero, List.set_cons_succ])
    (refine takeH (i := 2) (v := ?_) (by decide +kernel) (by decide +kernel) (by kernel_rfl) (by rfl) (by exact fun _ _ _ h => h) (by rfl) ?_ (by assumption) ?_); rotate_left; (focus (intro w hSw; (try dsimp only at hSw); go_simp; (try with_reducible rfl); done)); (try simp only [Act.put, List.setIfInBounds_toArray, List.set_cons_zero, List.set_cons_succ])
    (refine takeH (i := 3) (v := ?_) (by decide +kernel) (by decide +kernel) (by kernel_rfl) (by rfl) (by exact fun _ _ _ h => h) (by rfl) ?_ (by assumption) ?_); rotate_left; (focus (intro w hSw; (try dsimp only at hSw); go_simp; (try with_reducible rfl); done)); (try simp only [Act.put, List.setIfInBounds_toArray, List.set_cons_zero, List.set_cons_succ])
    (refine takeH (i := 4) (v := ?_) (by decide +kernel) (by decide +kernel) (by kernel_rfl) (by rfl) (by exact fun _ _ _ h => h) (by rfl) ?_ (by assumption) ?_); rotate_left; (focus (intro w hSw; (try dsimp only at hSw); go_simp; (try with_reducible rfl); done)); (try simp only [Act.put, List.setIfInBounds_toArray, List.set_cons_zero, List.set_cons_succ])
    (refine takeH (i := 5) (v := ?_) (by decide +kernel) (by decide +kernel) (by kernel_rfl) (by rfl) (by exact fun _ _ _ h => h) (by rfl) ?_ (by assumption) ?_); rotate_left; (focus (intro w hSw; (try dsimp only at hSw); go_simp; (try with_reducible rfl); done)); (try simp only [Act.put, List.setIfInBounds_toArray, List.set_cons_zero, List.set_cons_succ])
    (refine takeH (i := 6) (v := ?_) (by decide +kernel) (by decide +kernel) (by kernel_rfl) (by rfl) (by exact fun _ _ _ h => h) (by rfl) ?_ (by assumption) ?_); rotate_left; (focus (intro w hSw; (try dsimp only at hSw); go_simp; (try with_reducible rfl); done)); (try simp only [Act.put, List.setIfInBounds_toArray, List.set_cons_zero, List.set_cons_succ])
    refine nextH (i := 7) (by decide +kernel) (by rfl) (by rfl) (fun K hK => ?_)
    (go_simp; go_at_call 126; (refine (HV2.out _ HA.out).mono ?_); (rintro e w4 ⟨rfl, hb4⟩); (have hc4 := (bcell hb4).1); (have zC : w.heap.size < w3.drew.heap.size := F3.le 0 rfl); (have zD : b < w3.drew.heap.size := hbl); (have HB4 := Lib.hid (below_next F3.drew.below hb4)))
    refine hK.out _ _ ?_ (fun hHeld' => ?_)
    (focus ((try dsimp only); (first | done | ((first | exact ⟨c0, c1, c2, c3, c4, c5, c6, k0, k1⟩ | exact ⟨(hc4 _ _ zC).trans c0, (hc4 _ _ zC).trans c1, (hc4 _ _ zC).trans c2, (hc4 _ _ zC).trans c3, (hc4 _ _ zC).trans c4, (hc4 _ _ zC).trans c5, (hc4 _ _ zC).trans c6, (hc4 _ _ zD).trans k0, (hc4 _ _ zD).trans k1⟩); done))))
    clear hK K hHeld
    have hHeld := hHeld'
    clear hHeld'
    (try simp only [Act.put, List.setIfInBounds_toArray, List.set_cons_zero, List.set_cons_succ])
    (refine takeH (i := 8) (v := ?_) (by decide +kernel) (by decide +kernel) (by kernel_rfl) (by rfl) (by exact fun _ _ _ h => h) (by rfl) ?_ (by assumption) ?_); rotate_left; (focus (intro w hSw; (try dsimp only at hSw); go_simp; (try with_reducible rfl); done)); (try simp only [Act.put, List.setIfInBounds_toArray, List.set_cons_zero, List.set_cons_succ])
    (refine takeH (i := 9) (v := ?_) (by decide +kernel) (by decide +kernel) (by kernel_rfl) (by rfl) (by exact fun _ _ _ h => h) (by rfl) ?_ (by assumption) ?_); rotate_left; (focus (intro w hSw; (try dsimp only at hSw); go_simp; (try with_reducible rfl); done)); (try simp only [Act.put, List.setIfInBounds_toArray, List.set_cons_zero, List.set_cons_succ])
    (refine takeH (i := 10) (v := ?_) (by decide +kernel) (by decide +kernel) (by kernel_rfl) (by rfl) (by exact fun _ _ _ h => h) (by rfl) ?_ (by assumption) ?_); rotate_left; (focus (intro w hSw; (try dsimp only at hSw); go_simp; (try with_reducible rfl); done)); (try simp only [Act.put, List.setIfInBounds_toArray, List.set_cons_zero, List.set_cons_succ])
    refine wpAnyH_done (by decide +kernel) ?_ _
    clear hHeld c0 c1 c2 c3 c4 c5 c6 hc4 hb4
    have e9 : IntKind.i64.wrap (q - v) = q - v := IntWalk.i64_in _ (by omega)
    have E9 := Lib.hid e9
    clear e9
    go_wp2
    go_ret2
    rw [HE2.out]
    exact ⟨by show Ending.returned (.tuple #[.int .i64 (IntKind.i64.wrap (q - v)), .int .i64 0]) = _; rw [E9.out], HB4.out⟩

set_option maxRecDepth 100000 in
set_option maxHeartbeats 8000000 in
theorem sLeftAt_c (x : Ck) (a : Option Addr) (c : Nat) (pl now : Int) (w : World) (h : Ints w a x.left) (hm : x.left.length ≤ 16777216) :
    Calls Try.prog 36 #[x.val a c, .int .i64 pl, .int .i64 now] w fun e w' => e = .returned (.tuple #[.int .i64 (leftAtP x pl now).1, .int .i64 (leftAtP x pl now).2]) ∧ Below w.heap.size w w' := by
  have F0 := (Fr.start w).alloc (x.cells a c) 53
  obtain ⟨y, hy⟩ : ∃ y, y = leftAtP x pl now := ⟨_, rfl⟩
  rw [← hy]
  have HV := l23Ok_c w.heap.size 0 x a c _ (ck_at (F0.at 0 rfl)) (h.below F0.below (Nat.le_refl _)) (by unfold maxLen; omega)
  cases hok : x.ok
  · simp only [hok] at HV
    have HV := Lib.hid HV
    have HE : Hid (y = (0, 1)) := by unfold Hid; rw [hy, leftAtP, hok]; rfl
    clear hok hy
    go_enter Try.func36, Try.ntmps36
    go_wp2_with fail
    refine HV.out.mono ?_
    rintro e w1 ⟨rfl, n1, hw1⟩
    have F1 := F0.drawn n1
    rw [← hw1] at F1
    clear hw1 F0
    go_wp2
    go_ret2
    rw [HE.out]
    exact ⟨rfl, F1.below⟩
  obtain ⟨p, q, hl, hp, hq, hi, hd, hs, hpl⟩ := Ck.ok_parts hok
  simp only [hok] at HV
  have HV := Lib.hid HV
  have HH := Lib.hid h
  have HY : Hid (y = if (inB pl 0 1 && inB now x.since 36000000) = false then (0, 2) else (if x.running = true ∧ pl = x.player then leftQ x p q now else pick2 pl p q, 0)) := by unfold Hid; rw [hy, leftAtP, hok, hl]; rfl
  clear hy hok h
  obtain ⟨xl, xi, xd, xp, xs, xr, xf⟩ := x
  dsimp only at hl hp hq hi hd hs hpl HY
  subst hl
  cases hip : inB pl 0 1
  · have HE : Hid (y = (0, 2)) := by unfold Hid; rw [HY.out, hip]; rfl
    have HI := Lib.hid hip
    clear hip
    go_enter Try.func36, Try.ntmps36
    go_wp2_with fail
    refine HV.out.mono ?_
    rintro e w1 ⟨rfl, n1, hw1⟩
    have F1 := F0.drawn n1
    rw [← hw1] at F1
    obtain ⟨c0, c1, c2, c3, c4, c5, c6⟩ := Ck.boxc (F1.at 0 rfl)
    have zA : w.heap.size < w1.heap.size := F1.le 0 rfl
    clear hw1 F0
    go_wp2_with fail
    refine (l00In_c _ _ _ _).mono ?_
    rintro e w2 ⟨rfl, rfl⟩
    rw [HI.out]
    go_wp2
    go_ret2
    rw [HE.out]
    exact ⟨rfl, F1.below⟩
  cases hin : inB now xs 36000000
  · have HE : Hid (y = (0, 2)) := by unfold Hid; rw [HY.out, hip, hin]; rfl
    have HI := Lib.hid hip
    have HN := Lib.hid hin
    clear hip hin
    go_enter Try.func36, Try.ntmps36
    go_wp2_with fail
    refine HV.out.mono ?_
    rintro e w1 ⟨rfl, n1, hw1⟩
    have F1 := F0.drawn n1
    rw [← hw1] at F1
    obtain ⟨c0, c1, c2, c3, c4, c5, c6⟩ := Ck.boxc (F1.at 0 rfl)
    have zA : w.heap.size < w1.heap.size := F1.le 0 rfl
    clear hw1 F0
    go_wp2_with fail
    refine (l00In_c _ _ _ _).mono ?_
    rintro e w2 ⟨rfl, rfl⟩
    rw [HI.out]
    go_wp2_with fail
    refine (l00In_c _ _ _ _).mono ?_
    rintro e w3 ⟨rfl, rfl⟩
    rw [HN.out]
    go_wp2
    go_ret2
    rw [HE.out]
    exact ⟨rfl, F1.below⟩
  have HE : Hid (y = (if xr = true ∧ pl = xp then leftQ ⟨[p, q], xi, xd, xp, xs, xr, xf⟩ p q now else pick2 pl p q, 0)) := by unfold Hid; rw [HY.out, hip, hin]; rfl
  have hpb := inB_iff.1 hip
  have hnb := inB_iff.1 hin
  have HI := Lib.hid hip
  have HN := Lib.hid hin
  clear hip hin HY
  by_cases hr : xr = true ∧ pl = xp
  · obtain ⟨rfl, rfl⟩ := hr
    have HE2 : Hid (y = (leftQ ⟨[p, q], xi, xd, pl, xs, true, xf⟩ p q now, 0)) := by unfold Hid; rw [HE.out, if_pos ⟨rfl, rfl⟩]
    have hd1 : (pl != pl) = false := by simp
    have HLQ := Lib.hid (fun W A H => l23Left_c w.heap.size 0 p q xi xd pl xs true xf a c now W A H hp hq hd hs hnb hpl)
    clear HE
    go_enter Try.func36, Try.ntmps36
    go_wp2_with fail
    refine HV.out.mono ?_
    rintro e w1 ⟨rfl, n1, hw1⟩
    have F1 := F0.drawn n1
    rw [← hw1] at F1
    obtain ⟨c0, c1, c2, c3, c4, c5, c6⟩ := Ck.boxc (F1.at 0 rfl)
    have zA : w.heap.size < w1.heap.size := F1.le 0 rfl
    clear hw1 F0
    go_wp2_with fail
    refine (l00In_c _ _ _ _).mono ?_
    rintro e w2 ⟨rfl, rfl⟩
    rw [HI.out]
    go_wp2_with fail
    refine (l00In_c _ _ _ _).mono ?_
    rintro e w3 ⟨rfl, rfl⟩
    rw [HN.out]
    go_wp2_with fail
    refine (HLQ.out _ (ck_at (F1.at 0 rfl)) (HH.out.below F1.below (Nat.le_refl _))).mono ?_
    rintro e w4 ⟨rfl, n4, rfl⟩
    have F4 := F1.drawn n4
    clear c0 c1 c2 c3 c4 c5 c6
    go_wp2
    go_ret2
    rw [HE2.out]
    exact ⟨rfl, F4.below⟩
  · have HE2 : Hid (y = (pick2 pl p q, 0)) := by unfold Hid; rw [HE.out, if_neg hr]
    have hx : pl = 0 ∨ pl = 1 := by omega
    clear HE
    rcases hx with rfl | rfl
    · have HP : Hid (y = (p, 0)) := HE2.out
      cases xr
      case' true =>
        have hd1 : (0 != xp) = true := by
          simp only [true_and] at hr
          simpa using hr
      all_goals
        clear hr HE2
        go_enter Try.func36, Try.ntmps36
        go_wp2_with fail
        refine HV.out.mono ?_
        rintro e w1 ⟨rfl, n1, hw1⟩
        have F1 := F0.drawn n1
        rw [← hw1] at F1
        obtain ⟨c0, c1, c2, c3, c4, c5, c6⟩ := Ck.boxc (F1.at 0 rfl)
        have zA : w.heap.size < w1.heap.size := F1.le 0 rfl
        obtain ⟨b, o, ha, hbl, k0, k1⟩ := ints_two (HH.out.below F1.below (Nat.le_refl _))
        subst ha
        clear hw1 F0
        go_wp2_with fail
        refine (l00In_c _ _ _ _).mono ?_
        rintro e w2 ⟨rfl, rfl⟩
        rw [HI.out]
        go_wp2_with fail
        refine (l00In_c _ _ _ _).mono ?_
        rintro e w3 ⟨rfl, rfl⟩
        rw [HN.out]
        go_wp2
        go_ret2
        rw [HP.out]
        exact ⟨rfl, F1.below⟩
    · have HP : Hid (y = (q, 0)) := HE2.out
      cases xr
      case' true =>
        have hd1 : (1 != xp) = true := by
          simp only [true_and] at hr
          simpa using hr
      all_goals
        clear hr HE2
        go_enter Try.func36, Try.ntmps36
        go_wp2_with fail
        refine HV.out.mono ?_
        rintro e w1 ⟨rfl, n1, hw1⟩
        have F1 := F0.drawn n1
        rw [← hw1] at F1
        obtain ⟨c0, c1, c2, c3, c4, c5, c6⟩ := Ck.boxc (F1.at 0 rfl)
        have zA : w.heap.size < w1.heap.size := F1.le 0 rfl
        obtain ⟨b, o, ha, hbl, k0, k1⟩ := ints_two (HH.out.below F1.below (Nat.le_refl _))
        subst ha
        clear hw1 F0
        go_wp2_with fail
        refine (l00In_c _ _ _ _).mono ?_
        rintro e w2 ⟨rfl, rfl⟩
        rw [HI.out]
        go_wp2_with fail
        refine (l00In_c _ _ _ _).mono ?_
        rintro e w3 ⟨rfl, rfl⟩
        rw [HN.out]
        go_wp2
        go_ret2
        rw [HP.out]
        exact ⟨rfl, F1.below⟩

end Go.Proofs.Ytbjdfgfebepacaa
