/- ClkV: what is known of a clock that is pressed or stopped. Each fact holds under the premises that it states. -/
import Derived.Test.YtbjdfgfebepacaaClkL
namespace Go.Proofs.Ytbjdfgfebepacaa
set_option linter.unusedSimpArgs false
set_option linter.unusedVariables false
set_option linter.unnecessarySimpa false
open Go.RowKit Go.ChangeShapes Go.WideShapes Go.ChangeAt Go.Joins

/-- a clock that runs and is valid -/
structure RunOk (x : Ck) (now p q : Int) : Prop where
  ok : x.ok = true
  left : x.left = [p, q]
  hp : 0 < p ∧ p ≤ 36000000
  hq : 0 < q ∧ q ≤ 36000000
  hi : 0 ≤ x.inc ∧ x.inc ≤ 36000000
  hd : 0 ≤ x.delay ∧ x.delay ≤ 36000000
  hs : 0 ≤ x.since ∧ x.since ≤ 36000000
  hn : x.since ≤ now ∧ now ≤ 36000000
  pl : x.player = 0 ∨ x.player = 1
  run : x.running = true
  fal : x.fallen = false
theorem run_of {x : Ck} {now : Int} (h : (chargedP x now).2 = 0) : ∃ p q, RunOk x now p q ∧ chargedP x now = (useQ x p q now, 0) := by
  have hc : x.code now true = 0 := by
    unfold chargedP at h
    split at h
    · assumption
    · exact h
  obtain ⟨hok, hn, hr, hf⟩ := code_parts hc
  obtain ⟨p, q, hl, hp, hq, hi, hd, hs, hpl⟩ := Ck.ok_parts hok
  have hrest : x.rest p q = true := by
    rw [Ck.ok_two hl] at hok
    simp only [Bool.and_eq_true] at hok
    exact hok.2
  unfold Ck.rest at hrest
  rw [if_neg (by rw [hf]; simp)] at hrest
  simp only [Bool.and_eq_true, decide_eq_true_eq] at hrest
  refine ⟨p, q, ⟨hok, hl, ⟨hrest.1.1, hp.2⟩, ⟨hrest.1.2, hq.2⟩, hi, hd, hs, inB_iff.1 hn, by omega, hr, hf⟩, ?_⟩
  unfold chargedP useP
  rw [if_pos hc, hl]
theorem falls_run {x : Ck} {now p q : Int} (h : RunOk x now p q) : fallsP x = (x.since + x.delay + pick2 x.player p q, 0) := by
  unfold fallsP
  rw [h.ok, h.run, h.left]; rfl
theorem leftAt_run {x : Ck} {now p q : Int} (h : RunOk x now p q) : leftAtP x x.player now = (leftQ x p q now, 0) := by
  have h1 : inB x.player 0 1 = true := inB_iff.2 (by rcases h.pl with h | h <;> omega)
  have h2 : inB now x.since 36000000 = true := inB_iff.2 h.hn
  unfold leftAtP
  rw [h.ok, h1, h2, h.left]
  simp [h.run]
theorem leftQ_zero {x : Ck} {now p q : Int} (h : RunOk x now p q) : (leftQ x p q now = 0 ↔ x.since + x.delay + pick2 x.player p q ≤ now) ∧ 0 ≤ leftQ x p q now ∧ leftQ x p q now ≤ 36000000 := by
  have h1 := h.hp
  have h2 := h.hq
  have h3 := h.hd
  have h4 := h.hn
  unfold leftQ pick2
  split <;> omega
theorem ok_mk {x : Ck} {p q : Int} (hl : x.left = [p, q]) (hp : 0 ≤ p ∧ p ≤ 36000000) (hq : 0 ≤ q ∧ q ≤ 36000000) (hi : 0 ≤ x.inc ∧ x.inc ≤ 36000000) (hd : 0 ≤ x.delay ∧ x.delay ≤ 36000000) (hs : 0 ≤ x.since ∧ x.since ≤ 36000000) (hpl : x.player = 0 ∨ x.player = 1) (hr : x.rest p q = true) : x.ok = true := by
  rw [Ck.ok_two hl, hr, Bool.and_true]
  unfold Ck.first
  simp only [Bool.and_eq_true, isT_iff, inB_iff]
  refine ⟨⟨⟨⟨⟨hp, hq⟩, hi⟩, hd⟩, hs⟩, by rcases hpl with h | h <;> omega⟩
/-- what the law asks of a clock that is pressed -/
structure PressOk (x : Ck) (now p q : Int) (y : Ck) (p' q' : Int) : Prop where
  left : y.left = [p', q']
  oth : pick2 (1 - x.player) p' q' = pick2 (1 - x.player) p q
  ok : y.ok = true
  fal : y.fallen = decide (x.since + x.delay + pick2 x.player p q ≤ now)
  zero : y.fallen = true → leftQ x p q now = 0 ∧ pick2 x.player p' q' = 0
  run : y.fallen = false → pick2 x.player p' q' = min 36000000 (leftQ x p q now + x.inc) ∧ y.player = 1 - x.player ∧ y.since = now
theorem useQ_fallen {x : Ck} {now p q : Int} (h : RunOk x now p q) (hz : leftQ x p q now = 0) : PressOk x now p q (useQ x p q now) (if x.player = 0 then 0 else p) (if x.player = 0 then q else 0) := by
  have hf := (leftQ_zero h).1.1 hz
  have h1 := h.hp
  have h2 := h.hq
  unfold useQ
  rw [if_pos hz]
  refine ⟨?_, ?_, ?_, ?_, fun _ => ⟨hz, ?_⟩, fun e => by cases e⟩
  · simp only [set2]; split <;> rfl
  · rcases h.pl with e | e <;> simp [pick2, e]
  · have hl : (⟨set2 x.player p q 0, x.inc, x.delay, x.player, 0, false, true⟩ : Ck).left = [if x.player = 0 then 0 else p, if x.player = 0 then q else 0] := by simp only [set2]; split <;> rfl
    refine ok_mk hl ?_ ?_ h.hi h.hd (by simp) h.pl ?_
    · split <;> omega
    · split <;> omega
    · rcases h.pl with e | e <;> simp [Ck.rest, e]
  · simp [hf]
  · rcases h.pl with e | e <;> simp [pick2, e]
theorem pressed_hold {x : Ck} {now : Int} (h : (pressP x now).2 = 0) : ∃ p q p' q', RunOk x now p q ∧ PressOk x now p q (pressP x now).1 p' q' := by
  have hc : (chargedP x now).2 = 0 := by
    unfold pressP at h
    split at h
    · rename_i e; exact e.1
    · exact h
  obtain ⟨p, q, hr, he⟩ := run_of hc
  have hz := leftQ_zero hr
  by_cases h0 : leftQ x p q now = 0
  · refine ⟨p, q, if x.player = 0 then 0 else p, if x.player = 0 then q else 0, hr, ?_⟩
    have hu := useQ_fallen hr h0
    have : (pressP x now).1 = useQ x p q now := by
      unfold pressP
      rw [he, if_neg (by intro e; have := e.2; unfold useQ at this; rw [if_pos h0] at this; cases this)]
    rw [this]
    exact hu
  · have hnf : ¬ x.since + x.delay + pick2 x.player p q ≤ now := fun e => h0 (hz.1.2 e)
    have hu : useQ x p q now = { x with left := set2 x.player p q (leftQ x p q now) } := by unfold useQ; rw [if_neg h0]
    have hpr : (pressP x now).1 = pressU (useQ x p q now) now := by
      unfold pressP
      rw [he, if_pos ⟨rfl, by rw [hu]; exact hr.fal⟩]
    have h1 := hr.hp
    have h2 := hr.hq
    have h3 := hr.hi
    have h4 := hr.hn
    have h5 := hr.hs
    rcases hr.pl with e | e
    · refine ⟨p, q, min (leftQ x p q now + x.inc) 36000000, q, hr, ?_⟩
      have hy : pressU (useQ x p q now) now = ⟨[min (leftQ x p q now + x.inc) 36000000, q], x.inc, x.delay, 1, now, true, false⟩ := by
        rw [hu]; unfold pressU; simp [set2, e, pressQ, pick2, hr.run, hr.fal]
      rw [hpr, hy]
      refine ⟨rfl, by simp [pick2, e], ok_mk rfl (by omega) (by omega) h3 hr.hd (by dsimp only; omega) (.inr rfl) ?_, by simp [hnf], fun e => (by cases e), fun _ => ⟨?_, by simp [e], rfl⟩⟩
      · simp [Ck.rest]; omega
      · simp only [pick2, e, if_true]; omega
    · refine ⟨p, q, p, min (leftQ x p q now + x.inc) 36000000, hr, ?_⟩
      have hy : pressU (useQ x p q now) now = ⟨[p, min (leftQ x p q now + x.inc) 36000000], x.inc, x.delay, 0, now, true, false⟩ := by
        rw [hu]; unfold pressU; simp [set2, e, pressQ, pick2, hr.run, hr.fal]
      rw [hpr, hy]
      refine ⟨rfl, by simp [pick2, e], ok_mk rfl (by omega) (by omega) h3 hr.hd (by dsimp only; omega) (.inl rfl) ?_, by simp [hnf], fun e => (by cases e), fun _ => ⟨?_, by simp [e], rfl⟩⟩
      · simp [Ck.rest]; omega
      · simp [pick2, e]; omega

/-- what the law asks of a clock that is stopped -/
structure StopOk (x : Ck) (now p q : Int) (y : Ck) (p' q' : Int) : Prop where
  left : y.left = [p', q']
  own : pick2 x.player p' q' = leftQ x p q now
  ok : y.ok = true
  run : y.running = false
  zero : y.fallen = true → leftQ x p q now = 0
  start : y.fallen = false → startCk y now = ({ y with running := true, since := now }, 0)
theorem stopped_hold {x : Ck} {now : Int} (h : (stopP x now).2 = 0) : ∃ p q p' q', RunOk x now p q ∧ StopOk x now p q (stopP x now).1 p' q' := by
  have hc : (chargedP x now).2 = 0 := by
    unfold stopP at h
    split at h
    · assumption
    · exact h
  obtain ⟨p, q, hr, he⟩ := run_of hc
  have hz := leftQ_zero hr
  have hs : (stopP x now).1 = { useQ x p q now with running := false, since := 0 } := by unfold stopP; rw [he, if_pos rfl]
  have h1 := hr.hp
  have h2 := hr.hq
  have h3 := hr.hi
  have h4 := hr.hn
  have h5 := hr.hs
  rw [hs]
  by_cases h0 : leftQ x p q now = 0
  · rcases hr.pl with e | e
    · have hy : ({ useQ x p q now with running := false, since := 0 } : Ck) = ⟨[0, q], x.inc, x.delay, 0, 0, false, true⟩ := by unfold useQ; rw [if_pos h0]; simp [set2, e]
      rw [hy]
      exact ⟨p, q, 0, q, hr, rfl, by rw [h0]; simp [pick2, e], ok_mk rfl (by omega) (by omega) h3 hr.hd (by dsimp only; omega) (.inl rfl) (by simp [Ck.rest]), rfl, fun _ => h0, fun e => (by cases e)⟩
    · have hy : ({ useQ x p q now with running := false, since := 0 } : Ck) = ⟨[p, 0], x.inc, x.delay, 1, 0, false, true⟩ := by unfold useQ; rw [if_pos h0]; simp [set2, e]
      rw [hy]
      exact ⟨p, q, p, 0, hr, rfl, by rw [h0]; simp [pick2, e], ok_mk rfl (by omega) (by omega) h3 hr.hd (by dsimp only; omega) (.inr rfl) (by simp [Ck.rest]), rfl, fun _ => h0, fun e => (by cases e)⟩
  · have hst : ∀ (y : Ck), y.ok = true → y.since = 0 → y.running = false → y.fallen = false → startCk y now = ({ y with running := true, since := now }, 0) := by
      intro y k1 k2 k3 k4
      have k5 : inB now 0 36000000 = true := inB_iff.2 (by omega)
      simp [startCk, Ck.code, k1, k2, k3, k4, k5]
    rcases hr.pl with e | e
    · have hy : ({ useQ x p q now with running := false, since := 0 } : Ck) = ⟨[leftQ x p q now, q], x.inc, x.delay, 0, 0, false, false⟩ := by unfold useQ; rw [if_neg h0]; simp [set2, e, hr.fal]
      rw [hy]
      have hok : (⟨[leftQ x p q now, q], x.inc, x.delay, 0, 0, false, false⟩ : Ck).ok = true := ok_mk rfl (by omega) (by omega) h3 hr.hd (by dsimp only; omega) (.inl rfl) (by simp [Ck.rest]; omega)
      exact ⟨p, q, leftQ x p q now, q, hr, rfl, by simp [pick2, e], hok, rfl, fun e => (by cases e), fun _ => hst _ hok rfl rfl rfl⟩
    · have hy : ({ useQ x p q now with running := false, since := 0 } : Ck) = ⟨[p, leftQ x p q now], x.inc, x.delay, 1, 0, false, false⟩ := by unfold useQ; rw [if_neg h0]; simp [set2, e, hr.fal]
      rw [hy]
      have hok : (⟨[p, leftQ x p q now], x.inc, x.delay, 1, 0, false, false⟩ : Ck).ok = true := ok_mk rfl (by omega) (by omega) h3 hr.hd (by dsimp only; omega) (.inr rfl) (by simp [Ck.rest]; omega)
      exact ⟨p, q, p, leftQ x p q now, hr, rfl, by simp [pick2, e], hok, rfl, fun e => (by cases e), fun _ => hst _ hok rfl rfl rfl⟩
/-- time that is added can be taken away again -/
theorem added_hold {x : Ck} {pl t : Int} (h : (addP x pl t).2 = 0) : addP (addP x pl t).1 pl (-t) = (x, 0) := by
  unfold addP at h
  split at h
  · cases h
  · rename_i h1
    split at h
    · cases h
    · rename_i h2
      have hok : x.ok = true := by simpa using h1
      obtain ⟨p, q, hl, hp, hq, hi, hd, hs, hpl⟩ := Ck.ok_parts hok
      have hb : (inB pl 0 1 && inB t (-36000000) 36000000) = true := by simpa using h2
      rw [hl] at h
      dsimp only at h
      split at h
      · cases h
      · rename_i h3
        have h3' : x.fallen = false ∧ inB (pick2 pl p q + t) 1 36000000 = true := by simpa using h3
        obtain ⟨hf, hin⟩ := h3'
        have hrest : x.rest p q = true := by
          rw [Ck.ok_two hl] at hok
          simp only [Bool.and_eq_true] at hok
          exact hok.2
        have e1 : addP x pl t = ({ x with left := set2 pl p q (pick2 pl p q + t) }, 0) := by
          unfold addP
          rw [if_neg h1, if_neg h2, hl]
          dsimp only
          rw [if_neg (by rw [hf, hin]; simp)]
        have hrest' := hrest
        unfold Ck.rest at hrest'
        rw [if_neg (by rw [hf]; simp)] at hrest'
        simp only [Bool.and_eq_true, decide_eq_true_eq] at hrest'
        obtain ⟨⟨r1, r2⟩, r3⟩ := hrest'
        rw [e1]
        simp only [Bool.and_eq_true, inB_iff] at hb hin
        have hbb : (inB pl 0 1 && inB (-t) (-36000000) 36000000) = true := by simp only [Bool.and_eq_true, inB_iff]; omega
        have hpx : x.player = 0 ∨ x.player = 1 := by omega
        obtain ⟨xl, xi, xd, xp, xs, xr, xf⟩ := x
        dsimp only at hl hp hq hi hd hs hpx r1 r2 r3 hf hok
        subst hl hf
        have hpp : pl = 0 ∨ pl = 1 := by omega
        rcases hpp with rfl | rfl
        · have hin2 : inB (p + t + -t) 1 36000000 = true := inB_iff.2 (by omega)
          have hz : (Ck.mk [p + t, q] xi xd xp xs xr false).ok = true := ok_mk rfl (by simp [pick2] at hin; omega) (by omega) hi hd hs hpx (by simp [Ck.rest, r2, pick2] at *; exact ⟨by omega, r3⟩)
          show addP (Ck.mk [p + t, q] xi xd xp xs xr false) 0 (-t) = _
          unfold addP
          rw [if_neg (by rw [hz]; simp), if_neg (by rw [hbb]; simp)]
          dsimp only [pick2, set2]
          simp only [if_true]
          rw [hin2]
          simp; omega
        · have hin2 : inB (q + t + -t) 1 36000000 = true := inB_iff.2 (by omega)
          have hz : (Ck.mk [p, q + t] xi xd xp xs xr false).ok = true := ok_mk rfl (by omega) (by simp [pick2] at hin; omega) hi hd hs hpx (by simp [Ck.rest, r1, pick2] at *; exact ⟨by omega, r3⟩)
          show addP (Ck.mk [p, q + t] xi xd xp xs xr false) 1 (-t) = _
          unfold addP
          rw [if_neg (by rw [hz]; simp), if_neg (by rw [hbb]; simp)]
          dsimp only [pick2, set2]
          simp [hin2]; omega

end Go.Proofs.Ytbjdfgfebepacaa
