/- FactA: facts of moves, done one after the other: in plain terms, and whether a fact can be written. Each contract holds for every argument, under the premises that it states. -/
import Derived.Test.YtbjgigdkbjabaaaFlFact
import Derived.Test.YtbjgigdkbjabaaaPos
import Derived.Test.YtbjgigdkbjabaaaNew
import Derived.Test.YtbjgigdkbjabaaaOwn
import Derived.Deep.CutBlock
namespace Go.Proofs.Ytbjgigdkbjabaaa
set_option linter.unusedSimpArgs false
set_option linter.unusedVariables false
set_option linter.unnecessarySimpa false
open Go.RowKit Go.ChangeShapes Go.WideShapes Go.ChangeAt Go.Joins

/-! ### in plain terms -/
def Fc.canW (f : Fc) : Bool :=
  if f.kind = 5 ∨ f.kind = 6 then decide (f.place = 0) && decide (f.count = 0)
  else if f.kind = 1 ∨ f.kind = 2 ∨ f.kind = 3 ∨ f.kind = 4 then inB f.count 1 96 && (inB f.place 0 15 || (decide (f.place = -1) && decide (f.kind = 2)))
  else false
def Fc.here (r : R) (f : Fc) : Bool := (decide (f.kind = 5) || decide (f.kind = 6)) || (inB f.place 0 (2 * r.pits - 1) || (decide (f.place = -1) && r.stores))
def addAt (xs : List Int) (i n : Int) : List Int := xs.set i.toNat (xs.getD i.toNat 0 + n)
/-- a fact that is done, with seeds in the hand -/
def stepF (r : R) (s : P × Int) (f : Fc) : Option (P × Int) :=
  if (f.canW && f.here r) = false then none
  else if f.kind = 2 then
    if s.2 < f.count then none
    else if f.place < 0 then some (⟨s.1.pits, addAt s.1.stores s.1.player f.count, s.1.player⟩, s.2 - f.count)
    else some (⟨addAt s.1.pits f.place f.count, s.1.stores, s.1.player⟩, s.2 - f.count)
  else if ¬ s.2 = 0 then none
  else if f.kind = 1 then (if s.1.pits.getD f.place.toNat 0 = f.count then some (⟨s.1.pits.set f.place.toNat 0, s.1.stores, s.1.player⟩, f.count) else none)
  else if f.kind = 3 then (if s.1.pits.getD f.place.toNat 0 = f.count then some (⟨s.1.pits.set f.place.toNat 0, addAt s.1.stores s.1.player f.count, s.1.player⟩, 0) else none)
  else if f.kind = 6 then some (⟨s.1.pits, s.1.stores, 1 - s.1.player⟩, 0)
  else some (s.1, 0)
/-- what is known of a position while facts are done -/
structure AI (r : R) (T : Int) (s : P × Int) : Prop where
  hr : 2 ≤ r.pits ∧ r.pits ≤ 8
  lp : (s.1.pits.length : Int) = 2 * r.pits
  ls : s.1.stores.length = 2
  pl : s.1.player = 0 ∨ s.1.player = 1
  bp : ∀ x ∈ s.1.pits, 0 ≤ x ∧ x ≤ T
  bs : ∀ x ∈ s.1.stores, 0 ≤ x ∧ x ≤ T
  h0 : 0 ≤ s.2
  h1 : s.2 ≤ 96
  t0 : 96 ≤ T
theorem canW_kinds {f : Fc} (h : f.canW = true) : (f.kind = 5 ∨ f.kind = 6) ∧ f.place = 0 ∧ f.count = 0 ∨ (f.kind = 1 ∨ f.kind = 2 ∨ f.kind = 3 ∨ f.kind = 4) ∧ 1 ≤ f.count ∧ f.count ≤ 96 ∧ (0 ≤ f.place ∨ (f.place = -1 ∧ f.kind = 2)) := by
  unfold Fc.canW at h
  split at h
  · rename_i hk
    left
    simp at h
    exact ⟨hk, h⟩
  · split at h
    · rename_i hk
      right
      simp only [Bool.and_eq_true, Bool.or_eq_true, decide_eq_true_eq] at h
      obtain ⟨h1, h2⟩ := h
      have h1 := inB_iff.1 h1
      refine ⟨hk, h1.1, h1.2, ?_⟩
      rcases h2 with h2 | h2
      · exact .inl (inB_iff.1 h2).1
      · exact .inr h2
    · cases h
theorem mem_addAt {xs : List Int} {i n T : Int} (h : ∀ x ∈ xs, 0 ≤ x ∧ x ≤ T) (hT : 0 ≤ T) (hn : 0 ≤ n) (hn' : n ≤ 96) : ∀ x ∈ addAt xs i n, 0 ≤ x ∧ x ≤ T + 96 := by
  intro x hx
  unfold addAt at hx
  rcases List.mem_or_eq_of_mem_set hx with hx | rfl
  · have := h x hx; omega
  · rw [List.getD_eq_getElem?_getD]
    cases hg : xs[i.toNat]? with
    | none => simp; omega
    | some y =>
      have := h y (List.mem_of_getElem? hg)
      simp
      omega
theorem stepF_ai {r : R} {T : Int} {s s' : P × Int} {f : Fc} (h : AI r T s) (hs : stepF r s f = some s') : AI r (T + 96) s' := by
  have hb := h.t0
  have hw : ∀ x ∈ s.1.pits, 0 ≤ x ∧ x ≤ T + 96 := fun x hx => by have := h.bp x hx; omega
  have hw2 : ∀ x ∈ s.1.stores, 0 ≤ x ∧ x ≤ T + 96 := fun x hx => by have := h.bs x hx; omega
  have hz : ∀ i, ∀ x ∈ s.1.pits.set i 0, 0 ≤ x ∧ x ≤ T + 96 := fun i x hx => by
    rcases List.mem_or_eq_of_mem_set hx with hx | rfl
    · exact hw x hx
    · omega
  have hh0 := h.h0
  have hh1 := h.h1
  unfold stepF at hs
  split at hs
  · cases hs
  rename_i hok
  have hok : f.canW = true := by
    cases hc : f.canW
    · rw [hc] at hok; simp at hok
    · rfl
  have hk := canW_kinds hok
  split at hs
  · rename_i h2
    have hcnt : 1 ≤ f.count ∧ f.count ≤ 96 := by rcases hk with ⟨h3, _⟩ | ⟨_, h3, h4, _⟩ <;> omega
    split at hs
    · cases hs
    · split at hs <;> (simp only [Option.some.injEq] at hs; subst hs)
      · exact ⟨h.hr, h.lp, by simp [addAt]; exact h.ls, h.pl, hw, mem_addAt h.bs (by omega) (by omega) (by omega), by simp only; omega, by simp only; omega, by omega⟩
      · exact ⟨h.hr, by simp [addAt]; exact h.lp, h.ls, h.pl, mem_addAt h.bp (by omega) (by omega) (by omega), hw2, by simp only; omega, by simp only; omega, by omega⟩
  · split at hs
    · cases hs
    · rename_i hz0
      split at hs
      · rename_i h1
        have hcnt : 1 ≤ f.count ∧ f.count ≤ 96 := by rcases hk with ⟨h3, _⟩ | ⟨_, h3, h4, _⟩ <;> omega
        split at hs
        · simp only [Option.some.injEq] at hs
          subst hs
          exact ⟨h.hr, by simp; exact h.lp, h.ls, h.pl, hz _, hw2, by simp only; omega, by simp only; omega, by omega⟩
        · cases hs
      · split at hs
        · rename_i h3
          have hcnt : 1 ≤ f.count ∧ f.count ≤ 96 := by rcases hk with ⟨h3, _⟩ | ⟨_, h3, h4, _⟩ <;> omega
          split at hs
          · simp only [Option.some.injEq] at hs
            subst hs
            exact ⟨h.hr, by simp; exact h.lp, by simp [addAt]; exact h.ls, h.pl, hz _, mem_addAt h.bs (by omega) (by omega) (by omega), by simp, by simp, by omega⟩
          · cases hs
        · split at hs <;> (simp only [Option.some.injEq] at hs; subst hs)
          · have := h.pl
            exact ⟨h.hr, h.lp, h.ls, by simp only; omega, hw, hw2, by simp, by simp, by omega⟩
          · exact ⟨h.hr, h.lp, h.ls, h.pl, hw, hw2, by simp, by simp, by omega⟩
/-- all facts, one after the other -/
def goF (r : R) : List Fc → P × Int → Option (P × Int)
  | [], s => some s
  | f :: fs, s => match stepF r s f with
    | none => none
    | some s' => goF r fs s'
def applyP (r : R) (p : P) (fs : List Fc) : P × Int :=
  if p.ok r = false then (⟨[], [], 0⟩, 1) else if fs.length > 3000 then (⟨[], [], 0⟩, 5)
  else match goF r fs (p, 0) with
    | none => (⟨[], [], 0⟩, 6)
    | some s => if s.2 = 0 then (s.1, 0) else (⟨[], [], 0⟩, 6)

/-! ### whether a fact can be written -/
theorem kinds (k : Int) : k = 1 ∨ k = 2 ∨ k = 3 ∨ k = 4 ∨ k = 5 ∨ k = 6 ∨ (¬ k = 1 ∧ ¬ k = 2 ∧ ¬ k = 3 ∧ ¬ k = 4 ∧ ¬ k = 5 ∧ ¬ k = 6) := by omega
set_option maxRecDepth 100000 in
set_option maxHeartbeats 8000000 in
theorem canWrite_c (f : Fc) (w : World) : Calls Try.prog 111 #[f.val] w fun e w' => e = .returned (.bool f.canW) ∧ Below w.heap.size w w' := by
  obtain ⟨k, pl, c⟩ := f
  have B1 := below_alloc1 w (.cells #[.int .i64 k, .int .i64 pl, .int .i64 c] 95)
  have HE : ∀ b, Fc.canW ⟨k, pl, c⟩ = b → Hid (Fc.canW ⟨k, pl, c⟩ = b) := fun _ h => h
  have h15 := between_c pl 0 15 (w.alloc (.cells #[.int .i64 k, .int .i64 pl, .int .i64 c] 95))
  have h96 := between_c c 1 96 (w.alloc (.cells #[.int .i64 k, .int .i64 pl, .int .i64 c] 95))
  obtain ⟨b15, hb15⟩ : ∃ b, b = inB pl 0 15 := ⟨_, rfl⟩
  obtain ⟨b96, hb96⟩ : ∃ b, b = inB c 1 96 := ⟨_, rfl⟩
  rw [← hb15] at h15
  rw [← hb96] at h96
  have H15 := Lib.hid h15
  have H96 := Lib.hid h96
  have HB1 := Lib.hid B1
  clear h15 h96 B1
  rcases kinds k with rfl | rfl | rfl | rfl | rfl | rfl | ⟨n1, n2, n3, n4, n5, n6⟩
  case inr.inr.inr.inr.inr.inr =>
    have HF := HE false (by simp [Fc.canW, n1, n2, n3, n4, n5, n6])
    have e1 : (k == 1) = false := by simpa using n1
    have e2 : (k == 2) = false := by simpa using n2
    have e3 : (k == 3) = false := by simpa using n3
    have e4 : (k == 4) = false := by simpa using n4
    have e5 : (k == 5) = false := by simpa using n5
    have e6 : (k == 6) = false := by simpa using n6
    clear n1 n2 n3 n4 n5 n6 HE
    go_enter Try.func111, Try.ntmps111
    go_wp2
    go_ret
    exact ⟨by rw [HF.out]; rfl, HB1.out⟩
  case inr.inr.inr.inr.inl | inr.inr.inr.inr.inr.inl =>
    by_cases hp : pl = 0
    · subst hp
      by_cases hc : c = 0
      · subst hc
        have HF := HE true (by simp [Fc.canW])
        clear HE
        go_enter Try.func111, Try.ntmps111
        go_wp2
        go_ret
        exact ⟨by rw [HF.out]; rfl, HB1.out⟩
      · have HF := HE false (by simp [Fc.canW, hc])
        have e1 : (c == 0) = false := by simpa using hc
        clear HE hc
        go_enter Try.func111, Try.ntmps111
        go_wp2
        go_ret
        exact ⟨by rw [HF.out]; rfl, HB1.out⟩
    · have HF := HE false (by simp [Fc.canW, hp])
      have e1 : (pl == 0) = false := by simpa using hp
      clear HE hp
      go_enter Try.func111, Try.ntmps111
      go_wp2
      go_ret
      exact ⟨by rw [HF.out]; rfl, HB1.out⟩
  all_goals
    cases b96
    · have HF := HE false (by simp [Fc.canW, ← hb96])
      clear HE hb15 hb96
      go_enter Try.func111, Try.ntmps111
      go_wp2_with fail
      refine H96.out.mono ?_
      rintro e w1 ⟨rfl, rfl⟩
      go_wp2
      go_ret
      exact ⟨by rw [HF.out]; rfl, HB1.out⟩
    cases b15
    · by_cases hp : pl = -1
      · subst hp
        have HF := HE _ (by simp only [Fc.canW, ← hb96, ← hb15]; rfl)
        clear HE hb15 hb96
        go_enter Try.func111, Try.ntmps111
        go_wp2_with fail
        refine H96.out.mono ?_
        rintro e w1 ⟨rfl, rfl⟩
        go_wp2_with fail
        refine H15.out.mono ?_
        rintro e w1 ⟨rfl, rfl⟩
        go_wp2
        go_ret
        exact ⟨by rw [HF.out]; rfl, HB1.out⟩
      · have HF := HE false (by simp [Fc.canW, ← hb96, ← hb15, hp])
        have e1 : (pl == -1) = false := by simpa using hp
        clear HE hp hb15 hb96
        go_enter Try.func111, Try.ntmps111
        go_wp2_with fail
        refine H96.out.mono ?_
        rintro e w1 ⟨rfl, rfl⟩
        go_wp2_with fail
        refine H15.out.mono ?_
        rintro e w1 ⟨rfl, rfl⟩
        go_wp2
        go_ret
        exact ⟨by rw [HF.out]; rfl, HB1.out⟩
    · have HF := HE true (by simp [Fc.canW, ← hb96, ← hb15])
      clear HE hb15 hb96
      go_enter Try.func111, Try.ntmps111
      go_wp2_with fail
      refine H96.out.mono ?_
      rintro e w1 ⟨rfl, rfl⟩
      go_wp2_with fail
      refine H15.out.mono ?_
      rintro e w1 ⟨rfl, rfl⟩
      go_wp2
      go_ret
      exact ⟨by rw [HF.out]; rfl, HB1.out⟩

set_option maxRecDepth 100000 in
set_option maxHeartbeats 2000000 in
theorem isPit_c (r : R) (n : Int) (w : World) (hr : 2 ≤ r.pits ∧ r.pits ≤ 8) : Calls Try.prog 147 #[r.val, .int .i64 n] w fun e w' => e = .returned (.bool (inB n 0 (2 * r.pits - 1))) ∧ Below w.heap.size w w' := by
  have hw1 : IntKind.i64.wrap (2 * r.pits) = 2 * r.pits := IntWalk.i64_in _ (by omega)
  have hw2 : IntKind.i64.wrap (2 * r.pits - 1) = 2 * r.pits - 1 := IntWalk.i64_in _ (by omega)
  have HB := Lib.hid (below_alloc1 w (.cells r.cells 33))
  go_enter Try.func147, Try.ntmps147
  go_wp2_with fail
  refine (between_c n 0 (2 * r.pits - 1) _).mono ?_
  rintro e w1 ⟨rfl, rfl⟩
  go_wp2
  go_ret
  exact ⟨rfl, HB.out⟩
set_option maxRecDepth 100000 in
set_option maxHeartbeats 8000000 in
theorem hasPlace_c (r : R) (f : Fc) (w : World) (hr : 2 ≤ r.pits ∧ r.pits ≤ 8) : Calls Try.prog 112 #[r.val, f.val] w fun e w' => e = .returned (.bool (f.here r)) ∧ Below w.heap.size w w' := by
  obtain ⟨k, pl, c⟩ := f
  have F0 := ((Fr.start w).alloc r.cells 33).alloc (Fc.cells ⟨k, pl, c⟩) 95
  have HE : ∀ b, Fc.here r ⟨k, pl, c⟩ = b → Hid (Fc.here r ⟨k, pl, c⟩ = b) := fun _ h => h
  have HI := fun W => isPit_c r pl W hr
  obtain ⟨bp, hbp⟩ : ∃ b, b = inB pl 0 (2 * r.pits - 1) := ⟨_, rfl⟩
  rw [← hbp] at HI
  have HI := Lib.hid HI
  by_cases h5 : k = 5
  · subst h5
    have HF := HE true (by simp [Fc.here])
    clear HE hbp
    go_enter Try.func112, Try.ntmps112
    go_wp2
    go_ret
    exact ⟨by rw [HF.out]; rfl, F0.below⟩
  by_cases h6 : k = 6
  · subst h6
    have HF := HE true (by simp [Fc.here])
    clear HE hbp h5
    go_enter Try.func112, Try.ntmps112
    go_wp2
    go_ret
    exact ⟨by rw [HF.out]; rfl, F0.below⟩
  have e5 : (k == 5) = false := by simpa using h5
  have e6 : (k == 6) = false := by simpa using h6
  cases bp
  · by_cases hp : pl = -1
    · subst hp
      have HF := HE r.stores (by simp [Fc.here, h5, h6, ← hbp])
      clear HE hbp h5 h6
      go_enter Try.func112, Try.ntmps112
      go_wp2_with fail
      refine (HI.out _).mono ?_
      rintro e w1 ⟨rfl, hb1⟩
      have F1 := F0.step hb1
      obtain ⟨c0, c1, c2, c3, c4, c5, c6, c7, c8⟩ := R.boxc (F1.at 1 rfl)
      have d0 := F1.at 0 rfl 0 _ rfl
      have d1 := F1.at 0 rfl 1 _ rfl
      simp only [World.size_alloc] at d0 d1
      have zA : w.heap.size < w1.heap.size := F1.le 1 rfl
      have zB : w.heap.size + 1 < w1.heap.size := by have := F1.le 0 rfl; simp at this; omega
      clear hb1 F0
      go_wp2
      go_ret
      exact ⟨by rw [HF.out]; rfl, F1.below⟩
    · have HF := HE false (by simp [Fc.here, h5, h6, ← hbp, hp])
      have e1 : (pl == -1) = false := by simpa using hp
      clear HE hbp h5 h6 hp
      go_enter Try.func112, Try.ntmps112
      go_wp2_with fail
      refine (HI.out _).mono ?_
      rintro e w1 ⟨rfl, hb1⟩
      have F1 := F0.step hb1
      obtain ⟨c0, c1, c2, c3, c4, c5, c6, c7, c8⟩ := R.boxc (F1.at 1 rfl)
      have d0 := F1.at 0 rfl 0 _ rfl
      have d1 := F1.at 0 rfl 1 _ rfl
      simp only [World.size_alloc] at d0 d1
      have zA : w.heap.size < w1.heap.size := F1.le 1 rfl
      have zB : w.heap.size + 1 < w1.heap.size := by have := F1.le 0 rfl; simp at this; omega
      clear hb1 F0
      go_wp2
      go_ret
      exact ⟨by rw [HF.out]; rfl, F1.below⟩
  · have HF := HE true (by simp [Fc.here, ← hbp])
    clear HE hbp h5 h6
    go_enter Try.func112, Try.ntmps112
    go_wp2_with fail
    refine (HI.out _).mono ?_
    rintro e w1 ⟨rfl, hb1⟩
    have F1 := F0.step hb1
    clear hb1 F0
    go_wp2
    go_ret
    exact ⟨by rw [HF.out]; rfl, F1.below⟩

set_option maxRecDepth 100000 in
set_option maxHeartbeats 8000000 in
theorem l11Fact_c (f : Fc) (w : World) : Calls Try.prog 106 #[f.val] w fun e w' => e = .returned (.bool f.canW) ∧ Below w.heap.size w w' := by
  obtain ⟨k, pl, c⟩ := f
  have B1 := below_alloc1 w (.cells #[.int .i64 k, .int .i64 pl, .int .i64 c] 95)
  have HE : ∀ b, Fc.canW ⟨k, pl, c⟩ = b → Hid (Fc.canW ⟨k, pl, c⟩ = b) := fun _ h => h
  have h15 := l00In_c pl (if k = 2 then -1 else 0) 15 (w.alloc (.cells #[.int .i64 k, .int .i64 pl, .int .i64 c] 95))
  have h96 := l00In_c c 1 96 (w.alloc (.cells #[.int .i64 k, .int .i64 pl, .int .i64 c] 95))
  obtain ⟨b15, hb15⟩ : ∃ b, b = inB pl (if k = 2 then -1 else 0) 15 := ⟨_, rfl⟩
  obtain ⟨b96, hb96⟩ : ∃ b, b = inB c 1 96 := ⟨_, rfl⟩
  rw [← hb15] at h15
  rw [← hb96] at h96
  have HB1 := Lib.hid B1
  clear B1
  rcases kinds k with rfl | rfl | rfl | rfl | rfl | rfl | ⟨n1, n2, n3, n4, n5, n6⟩
  case inr.inr.inr.inr.inr.inr =>
    have HF := HE false (by simp [Fc.canW, n1, n2, n3, n4, n5, n6])
    have e1 : (k == 1) = false := by simpa using n1
    have e2 : (k == 2) = false := by simpa using n2
    have e3 : (k == 3) = false := by simpa using n3
    have e4 : (k == 4) = false := by simpa using n4
    have e5 : (k == 5) = false := by simpa using n5
    have e6 : (k == 6) = false := by simpa using n6
    clear n1 n2 n3 n4 n5 n6 HE h15 h96 hb15 hb96
    go_enter Try.func106, Try.ntmps106
    go_wp2
    go_ret
    exact ⟨by rw [HF.out]; rfl, HB1.out⟩
  case inr.inr.inr.inr.inl | inr.inr.inr.inr.inr.inl =>
    clear h15 h96 hb15 hb96
    by_cases hp : pl = 0
    · subst hp
      by_cases hc : c = 0
      · subst hc
        have HF := HE true (by simp [Fc.canW])
        clear HE
        go_enter Try.func106, Try.ntmps106
        go_wp2
        go_ret
        exact ⟨by rw [HF.out]; rfl, HB1.out⟩
      · have HF := HE false (by simp [Fc.canW, hc])
        have e1 : (c == 0) = false := by simpa using hc
        clear HE hc
        go_enter Try.func106, Try.ntmps106
        go_wp2
        go_ret
        exact ⟨by rw [HF.out]; rfl, HB1.out⟩
    · have HF := HE false (by simp [Fc.canW, hp])
      have e1 : (pl == 0) = false := by simpa using hp
      clear HE hp
      go_enter Try.func106, Try.ntmps106
      go_wp2
      go_ret
      exact ⟨by rw [HF.out]; rfl, HB1.out⟩
  all_goals
    have HF := HE (b15 && b96) (by
      rw [hb15, hb96, Fc.canW]
      by_cases g1 : 1 ≤ c <;> by_cases g2 : c ≤ 96 <;> by_cases g3 : 0 ≤ pl <;> by_cases g4 : pl ≤ 15 <;> by_cases g5 : pl = -1 <;> simp [inB, g1, g2, g3, g4, g5] <;> omega)
    have H15 := Lib.hid h15
    have H96 := Lib.hid h96
    clear HE h15 h96 hb15 hb96
    cases b15
    · go_enter Try.func106, Try.ntmps106
      go_wp2_with fail
      refine H15.out.mono ?_
      rintro e w1 ⟨rfl, rfl⟩
      go_wp2
      go_ret
      exact ⟨by rw [HF.out]; rfl, HB1.out⟩
    · go_enter Try.func106, Try.ntmps106
      go_wp2_with fail
      refine H15.out.mono ?_
      rintro e w1 ⟨rfl, rfl⟩
      go_wp2_with fail
      refine H96.out.mono ?_
      rintro e w1 ⟨rfl, rfl⟩
      go_wp2
      go_ret
      exact ⟨by rw [HF.out]; rfl, HB1.out⟩

end Go.Proofs.Ytbjgigdkbjabaaa
