/- Flat: lists of structs of a fixed number of cells: how they lie in memory, cell by cell. Plain facts, under the premises that each statement names. -/
import Derived.Test.YtbjgigdkbjabaaaFrame
import Derived.Deep.Slices
namespace Go.Proofs.Ytbjgigdkbjabaaa
set_option linter.unusedSimpArgs false
set_option linter.unusedVariables false
set_option linter.unnecessarySimpa false
open Go.RowKit Go.ChangeShapes Go.WideShapes Go.ChangeAt Go.Joins

def flat {α β : Type} (f : α → List β) : List α → List β
  | [] => []
  | x :: l => f x ++ flat f l
theorem flat_append {α β : Type} (f : α → List β) (l k : List α) : flat f (l ++ k) = flat f l ++ flat f k := by
  induction l with
  | nil => rfl
  | cons x l ih => simp [flat, ih]
theorem flat_one {α β : Type} (f : α → List β) (x : α) : flat f [x] = f x := by simp [flat]
theorem flat_length {α β : Type} {f : α → List β} {n : Nat} (hf : ∀ x, (f x).length = n) : ∀ (l : List α), (flat f l).length = l.length * n
  | [] => by simp [flat]
  | x :: l => by rw [flat, List.length_append, hf, flat_length hf l, List.length_cons, Nat.add_mul]; omega
theorem flat_get {α β : Type} {f : α → List β} {n : Nat} (hf : ∀ x, (f x).length = n) : ∀ (l : List α) (i j : Nat) (x : α), l[i]? = some x → j < n → (flat f l)[i * n + j]? = (f x)[j]?
  | [], i, j, x, h, hj => by simp at h
  | y :: l, 0, j, x, h, hj => by
    simp at h
    subst h
    rw [Nat.zero_mul, Nat.zero_add, flat, List.getElem?_append_left (by rw [hf]; exact hj)]
  | y :: l, i + 1, j, x, h, hj => by
    have h1 : (i + 1) * n = i * n + n := by rw [Nat.add_mul]; omega
    rw [flat, List.getElem?_append_right (by rw [hf]; omega), hf, ← flat_get hf l i j x (by simpa using h) hj]
    congr 1
    omega
theorem flat_same {α β : Type} {f : α → List β} : ∀ {l : List α} {i : Nat} {x x' : α}, l[i]? = some x → f x' = f x → flat f (l.set i x') = flat f l
  | [], i, x, x', h, he => by simp at h
  | y :: l, 0, x, x', h, he => by
    simp at h
    subst h
    simp [flat, he]
  | y :: l, i + 1, x, x', h, he => by
    rw [List.set_cons_succ, flat, flat, flat_same (by simpa using h) he]
theorem flat_set {α β : Type} {f : α → List β} {n : Nat} (hf : ∀ x, (f x).length = n) {l : List α} {i j : Nat} {x x' : α} {v : β} (hx : l[i]? = some x) (hj : j < n) (he : f x' = (f x).set j v) :
    (flat f l).set (i * n + j) v = flat f (l.set i x') := by
  have hi : i < l.length := (List.getElem?_eq_some_iff.1 hx).1
  apply List.ext_getElem?
  intro k
  by_cases hk : k < l.length * n
  · have hn : 0 < n := by omega
    have hq : k / n < l.length := by rw [Nat.div_lt_iff_lt_mul hn]; exact hk
    have hr : k % n < n := Nat.mod_lt _ hn
    have e : k / n * n + k % n = k := by rw [Nat.mul_comm]; exact Nat.div_add_mod k n
    rw [← e]
    by_cases h1 : k / n = i
    · rw [h1, flat_get hf (l.set i x') i (k % n) x' (by simp [hi]) hr, he]
      by_cases h2 : k % n = j
      · rw [h2, List.getElem?_set_self (by rw [flat_length hf, ← h1, ← h2, e]; exact hk), List.getElem?_set_self (by rw [hf]; exact hj)]
      · rw [List.getElem?_set_ne (by omega), List.getElem?_set_ne (by omega), flat_get hf l i (k % n) x hx hr]
    · have hne : i * n + j ≠ k / n * n + k % n := by
        intro e2
        apply h1
        have h3 : (i * n + j) / n = i := by rw [Nat.mul_comm, Nat.mul_add_div hn, Nat.div_eq_of_lt hj, Nat.add_zero]
        have h4 : (k / n * n + k % n) / n = k / n := by rw [e]
        rw [← e2, h3] at h4
        exact h4.symm
      obtain ⟨y, hy⟩ : ∃ y, l[k / n]? = some y := ⟨_, List.getElem?_eq_getElem hq⟩
      rw [List.getElem?_set_ne hne, flat_get hf l _ _ y hy hr, flat_get hf (l.set i x') _ _ y (by rw [List.getElem?_set_ne (by omega)]; exact hy) hr]
  · rw [List.getElem?_eq_none (by rw [List.length_set, flat_length hf]; omega), List.getElem?_eq_none (by rw [flat_length hf, List.length_set]; omega)]
/-- new cells are as many times the zero item -/
theorem made_flat {α : Type} {f : α → List Value} {size : Nat} (hf : ∀ y, (f y).length = size) (hs : 0 < size) (z : Array Value) (x : α) (hx : f x = z.toList) (n : Nat) : (madeCells z (n * size)).toList = flat f (List.replicate n x) := by
  have hz : z.size = size := by rw [← hf x, hx, Array.length_toList]
  apply List.ext_getElem?
  intro k
  by_cases hk : k < n * size
  · have e : k / size * size + k % size = k := by rw [Nat.mul_comm]; exact Nat.div_add_mod k size
    have hq : k / size < n := by rw [Nat.div_lt_iff_lt_mul hs]; exact hk
    have hr : k % size < size := Nat.mod_lt _ hs
    have h1 : (flat f (List.replicate n x))[k]? = (f x)[k % size]? := by
      have := flat_get hf (List.replicate n x) (k / size) (k % size) x (by simp [hq]) hr
      rw [e] at this
      exact this
    rw [h1, hx]
    simp [madeCells, hk, hz]
    rw [getElem!_pos z (k % size) (by omega), Array.getElem?_eq_getElem (by omega)]
  · rw [List.getElem?_eq_none (by simp [size_madeCells]; omega), List.getElem?_eq_none (by rw [flat_length hf, List.length_replicate]; omega)]
/-- the cells of item i lie there -/
theorem Row.item {α : Type} {f : α → List Value} {n : Nat} (hf : ∀ x, (f x).length = n) {w : World} {a : Option Addr} {l : List α} (h : Row w a (flat f l)) {i : Nat} {x : α} (hx : l[i]? = some x) (hn : 0 < n) :
    ∃ b off, a = some ⟨b, off, none⟩ ∧ b < w.heap.size ∧ ∀ j v, j < n → (f x)[j]? = some v → w.cell? ⟨b, off + (i * n + j), none⟩ = some v := by
  have hk : i < l.length := (List.getElem?_eq_some_iff.1 hx).1
  obtain ⟨b, off, ha, hb, hc⟩ := Row.at h (by rw [flat_length hf]; exact Nat.mul_pos (by omega) hn)
  exact ⟨b, off, ha, hb, fun j v hj hv => hc (i * n + j) v (by rw [flat_get hf l i j x hx hj]; exact hv)⟩
theorem own_item {α : Type} {f : α → List Value} {n : Nat} (hf : ∀ x, (f x).length = n) {w : World} {base g c : Nat} {e : TypeId} {l : List α} (h : w.ownsRow base e n (.slice (some ⟨g, 0, none⟩) l.length c) l.length (flat f l)) {i : Nat} {x : α} (hx : l[i]? = some x) :
    ∀ j v, j < n → (f x)[j]? = some v → w.cell? ⟨g, i * n + j, none⟩ = some v := fun j v hj hv => by
  have hk : i < l.length := (List.getElem?_eq_some_iff.1 hx).1
  have h1 : i * n + n ≤ l.length * n := by rw [← Nat.succ_mul]; exact Nat.mul_le_mul_right n hk
  rw [h.cellAt (i * n + j) (by omega), flat_get hf l i j x hx hj]
  exact hv

/-! ### marks: the first j items of a list are overwritten -/
def over {α : Type} (m : Nat → α) (j : Nat) (l : List α) : List α := (List.range j).map m ++ l.drop j
theorem over_zero {α : Type} (m : Nat → α) (l : List α) : over m 0 l = l := by simp [over]
theorem over_len {α : Type} (m : Nat → α) {j : Nat} {l : List α} (h : j ≤ l.length) : (over m j l).length = l.length := by simp [over]; omega
theorem over_get {α : Type} (m : Nat → α) {j : Nat} {l : List α} (h : j < l.length) : (over m j l)[j]? = l[j]? := by
  unfold over
  rw [List.getElem?_append_right (by simp)]
  simp
theorem over_set {α : Type} (m : Nat → α) {j : Nat} {l : List α} (h : j < l.length) : (over m j l).set j (m j) = over m (j + 1) l := by
  unfold over
  rw [List.set_append_right _ _ (by simp), List.range_succ, List.map_append]
  have : l.drop j = l[j] :: l.drop (j + 1) := List.drop_eq_getElem_cons h
  rw [this]
  simp only [List.length_map, List.length_range, Nat.sub_self, List.set_cons_zero, List.append_assoc, List.singleton_append, List.map_cons, List.map_nil]
theorem over_all {α : Type} (m : Nat → α) (l : List α) : over m l.length l = (List.range l.length).map m := by simp [over]
theorem over_at {α : Type} (m : Nat → α) {j n : Nat} (h : j < n) : ((List.range n).map m)[j]? = some (m j) := by simp [h]

/-! ### a list whose items are known one by one -/
theorem flat_mem {α β : Type} {f : α → List β} {l : List α} {x : α} {y : β} (hx : x ∈ l) (hy : y ∈ f x) : y ∈ flat f l := by
  induction l with
  | nil => cases hx
  | cons z l ih =>
    rw [flat, List.mem_append]
    rcases List.mem_cons.1 hx with rfl | hx
    · exact .inl hy
    · exact .inr (ih hx)
theorem flat_list {α : Type} {f : α → List Value} {m : Nat} (hf : ∀ x, (f x).length = m) (P : α → Prop) {W : World} {b off : Nat} : ∀ (n : Nat), (∀ i, i < n → ∃ k : α, P k ∧ ∀ j v, j < m → (f k)[j]? = some v → W.cell? ⟨b, off + (i * m + j), none⟩ = some v) →
    ∃ l : List α, l.length = n ∧ Row W (some ⟨b, off, none⟩) (flat f l) ∧ ∀ x ∈ l, P x
  | 0, _ => ⟨[], rfl, fun j v hv => by simp [flat] at hv, fun x hx => by cases hx⟩
  | n + 1, h => by
    obtain ⟨l, hl, hr, hp⟩ := flat_list hf P n (fun i hi => h i (by omega))
    obtain ⟨k, hk, hc⟩ := h n (by omega)
    refine ⟨l ++ [k], by simp [hl], fun j v hv => ?_, fun x hx => ?_⟩
    · rw [flat_append, flat_one] at hv
      have hkl := flat_length hf l
      by_cases h1 : j < (flat f l).length
      · rw [List.getElem?_append_left h1] at hv
        exact hr j v hv
      · rw [List.getElem?_append_right (by omega)] at hv
        refine ⟨b, off, rfl, ?_⟩
        have hj : j - (flat f l).length < m := by
          have := (List.getElem?_eq_some_iff.1 hv).1
          rw [hf] at this
          exact this
        have := hc (j - (flat f l).length) v hj hv
        rw [show off + (n * m + (j - (flat f l).length)) = off + j by rw [← hl]; omega] at this
        exact this
    · rcases List.mem_append.1 hx with hx | hx
      · exact hp x hx
      · obtain rfl : x = k := by simpa using hx
        exact hk
theorem open_flats {H : Type} {enc : TypeId × Value → H} {W : World} {held : Bool} {fuel : Nat} {cs : List Value} {x : DataW H × List MemPlace} {α : Type} {f : α → List Value} {m : Nat} (hf : ∀ x, (f x).length = m) (hm0 : 0 < m) (P : α → Prop) {t u : TypeId}
    (ht : Try.prog.underlying t = some (.slice u)) (hc : Try.prog.cellsOf u = m)
    (ho : ∀ {fuel : Nat} {cs : List Value} {x : DataW H × List MemPlace}, DataW.trod enc Try.prog W 0 (fun _ => true) held fuel u cs = some x → ∃ k : α, cs = f k ∧ P k)
    (h : DataW.trod enc Try.prog W 0 (fun _ => true) held fuel t cs = some x) :
    ∃ (l : List α) (a : Option Addr) (c : Nat), cs = [.slice a l.length c] ∧ Row W a (flat f l) ∧ l.length ≤ maxLen ∧ ∀ x ∈ l, P x := by
  rcases Go.Deep.open_slice ht h with ⟨hcs, hx⟩ | ⟨a, len, cap, mm, n, D, Pl, hcs, _, hl, hm, hmm, hx, hi⟩
  · exact ⟨[], none, 0, by simpa using hcs, fun j v hv => by simp [flat] at hv, by simp, fun x hx => by cases hx⟩
  · have hmc : mm = cap := by simpa using hmm
    by_cases h0 : len = 0
    · subst h0
      exact ⟨[], some a, cap, by simpa using hcs, fun j v hv => by simp [flat] at hv, by simp, fun x hx => by cases hx⟩
    · have hsp : a.spot = none := by
        obtain ⟨cs', h1, h2⟩ := hi 0 (by omega)
        rw [hc] at h1
        obtain ⟨_, h3, h4⟩ := World.cells?_some h1
        have h5 := h4 0 (by omega)
        rw [List.getElem?_eq_getElem (by omega)] at h5
        simpa [Addr.add] using World.cell?_spot h5
      obtain ⟨b, off, spot⟩ := a
      dsimp only at hsp
      subst hsp
      obtain ⟨l, hll, hr, hq⟩ := flat_list hf P (W := W) (b := b) (off := off) len (fun i hil => by
        obtain ⟨cs', h1, h2⟩ := hi i (by omega)
        obtain ⟨k, rfl, hk⟩ := ho h2
        rw [hc] at h1
        obtain ⟨_, h3, h4⟩ := World.cells?_some h1
        refine ⟨k, hk, fun j v hj hv => ?_⟩
        have h5 := h4 j hj
        rw [hv, Go.Deep.add_add, Go.WideShapes.add_plain] at h5
        exact h5)
      exact ⟨l, some ⟨b, off, none⟩, cap, by rw [hll]; exact hcs, hr, by omega, hq⟩
end Go.Proofs.Ytbjgigdkbjabaaa
