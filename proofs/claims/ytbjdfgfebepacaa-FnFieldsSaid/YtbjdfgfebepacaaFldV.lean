/- FldV: plain laws of fields: a field that is set has its value and no other changes; the nearest game's distance. No conditions but those stated. -/
import Derived.Test.YtbjdfgfebepacaaSetF
namespace Go.Proofs.Ytbjdfgfebepacaa
set_option linter.unusedSimpArgs false
set_option linter.unusedVariables false
set_option linter.unnecessarySimpa false
open Go.RowKit Go.ChangeShapes Go.WideShapes Go.ChangeAt Go.Joins

theorem nearK_hold (r : R) : ∀ n, 0 < n → n ≤ 4 → ∃ k, k < 4 ∧ nearK r n = (stdN k, nearN r k)
  | 0, h, _ => by omega
  | n + 1, _, h => by
    simp only [nearK]
    split
    · exact ⟨n, by omega, rfl⟩
    · rename_i h2
      exact nearK_hold r n (by omega) (by omega)
theorem nearP_hold {r : R} (h : r.ok = true) : ∃ k, k < 4 ∧ nearP r = (stdN k, ((diffK r (stdR k) 9).length : Int), 0) := by
  obtain ⟨k, hk, he⟩ := nearK_hold r 4 (by omega) (by omega)
  refine ⟨k, hk, ?_⟩
  rw [nearP, if_pos h, he, diffK_comm]
  rfl
theorem nearP_bad {r : R} (h : r.ok = false) : nearP r = (⟨#[]⟩, 0, 1) := by
  rw [nearP, if_neg (by simp [h])]
theorem bitI_inj {a b : Bool} (h : bitI a = bitI b) : a = b := by
  cases a <;> cases b <;> simp_all [bitI]
theorem diffK_nil {a b : R} : diffK a b 9 = [] ↔ a = b := by
  constructor
  · intro h
    have h1 : ∀ j, j < 9 → a.list.getD j 0 = b.list.getD j 0 := by
      intro j hj
      have h2 : ((List.range 9).filter fun j => a.list.getD j 0 != b.list.getD j 0) = [] := by
        have := h
        unfold diffK at this
        exact List.map_eq_nil_iff.1 this
      have h3 := List.filter_eq_nil_iff.1 h2 j (by simp; omega)
      simpa using h3
    obtain ⟨a0, a1, a2, a3, a4, a5, a6, a7, a8⟩ := a
    obtain ⟨b0, b1, b2, b3, b4, b5, b6, b7, b8⟩ := b
    have k0 := h1 0 (by omega)
    have k1 := h1 1 (by omega)
    have k2 := h1 2 (by omega)
    have k3 := h1 3 (by omega)
    have k4 := h1 4 (by omega)
    have k5 := h1 5 (by omega)
    have k6 := h1 6 (by omega)
    have k7 := h1 7 (by omega)
    have k8 := h1 8 (by omega)
    simp only [R.list, List.getD_cons_zero, List.getD_cons_succ] at k0 k1 k2 k3 k4 k5 k6 k7 k8
    rw [k0, k1, bitI_inj k2, bitI_inj k3, bitI_inj k4, bitI_inj k5, bitI_inj k6, k7, k8]
  · rintro rfl
    unfold diffK
    simp
theorem list_set_other (r : R) (v : Int) : ∀ k j, k < 9 → j < 9 → j ≠ k → (setR r k v).list.getD j 0 = r.list.getD j 0 := by
  intro k j hk hj hne
  match k, hk with
  | 0, _ | 1, _ | 2, _ | 3, _ | 4, _ | 5, _ | 6, _ | 7, _ | 8, _ =>
    match j, hj with
    | 0, _ | 1, _ | 2, _ | 3, _ | 4, _ | 5, _ | 6, _ | 7, _ | 8, _ =>
      first | rfl | exact absurd rfl hne
theorem filter_one (k : Nat) (p : Nat → Bool) (hp : ∀ j, j < 9 → j ≠ k → p j = false) (hk : k < 9) : (List.range 9).filter p = [] ∨ (List.range 9).filter p = [k] := by
  have e : ∀ j, j < 9 → p j = (decide (j = k) && p k) := by
    intro j hj
    by_cases h : j = k
    · simp [h]
    · simp [h, hp j hj h]
  have e2 : (List.range 9).filter p = (List.range 9).filter (fun j => decide (j = k) && p k) := by
    apply List.filter_congr
    intro j hj
    exact e j (by simpa using hj)
  rw [e2]
  cases p k
  · left; simp
  · right
    simp only [Bool.and_true]
    clear e e2 hp
    match k, hk with
    | 0, _ | 1, _ | 2, _ | 3, _ | 4, _ | 5, _ | 6, _ | 7, _ | 8, _ => decide
theorem setP_hold {r : R} {s : ByteArray} {v : Int} (h : (setP r s v).2 = 0) :
    r.ok = true ∧ (setP r s v).1.ok = true ∧ FieldOfP (setP r s v).1 s = (v, 0) ∧ (diffK r (setP r s v).1 9 = [] ∨ diffK r (setP r s v).1 9 = [s]) := by
  unfold setP at h ⊢
  by_cases h1 : r.ok = false
  · rw [if_pos h1] at h; simp at h
  rw [if_neg h1] at h ⊢
  by_cases h2 : fieldOk s = false
  · rw [if_pos h2] at h; simp at h
  rw [if_neg h2] at h ⊢
  have hf : fieldOk s = true := by simpa using h2
  obtain ⟨k, hk, hs, hi⟩ := name_of hf
  rw [hi] at h ⊢
  unfold setK at h ⊢
  by_cases h3 : (2 ≤ k ∧ k ≤ 6 ∧ inB v 0 1 = false) ∨ (setR r k v).ok = false
  · rw [if_pos h3] at h; simp at h
  rw [if_neg h3] at h ⊢
  simp only at h ⊢
  have hok : (setR r k v).ok = true := by
    have : ¬ (setR r k v).ok = false := fun e => h3 (Or.inr e)
    simpa using this
  refine ⟨by simpa using h1, hok, ?_, ?_⟩
  · rw [FieldOfP, if_neg (by simp [hok]), if_neg h2]
    have hv : fieldV (setR r k v) s = v := by
      rw [hs, fieldV_at _ hk]
      have hb : 2 ≤ k → k ≤ 6 → v = 0 ∨ v = 1 := by
        intro a b
        have : ¬ inB v 0 1 = false := fun e => h3 (Or.inl ⟨a, b, e⟩)
        simp [inB] at this
        omega
      match k, hk with
      | 0, _ | 1, _ | 7, _ | 8, _ => rfl
      | 2, _ | 3, _ | 4, _ | 5, _ | 6, _ =>
        rcases hb (by omega) (by omega) with rfl | rfl <;> rfl
    rw [hv]
  · have := filter_one k (fun j => r.list.getD j 0 != (setR r k v).list.getD j 0) (fun j hj hne => by
      rw [list_set_other r v k j hk hj hne]; simp) hk
    unfold diffK
    rcases this with e | e
    · left; rw [e]; rfl
    · right; rw [e, hs]; rfl
end Go.Proofs.Ytbjdfgfebepacaa
