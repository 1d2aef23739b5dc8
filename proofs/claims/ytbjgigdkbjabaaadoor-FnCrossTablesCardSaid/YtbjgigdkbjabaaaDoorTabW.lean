/- TabW: a match's text read back, the law's argument, texts compared (printed by gen/tabw.py). Each contract holds for every argument, under the premises that it states. -/
import Derived.Test.YtbjgigdkbjabaaaDoorTabO
import Derived.Test.YtbjgigdkbjabaaaDoorTabZ
namespace Go.Proofs.YtbjgigdkbjabaaaDoor
set_option linter.unusedSimpArgs false
set_option linter.unusedVariables false
set_option linter.unnecessarySimpa false
open Go.RowKit Go.ChangeShapes Go.WideShapes Go.ChangeAt Go.Joins

/-! ### a text read back -/
theorem split_word : ∀ {p : List UInt8}, (∀ c ∈ p, c ≠ 32) → splitB 32 p = [p]
  | [], _ => rfl
  | x :: p, h => by
    have e : splitB 32 (x :: p) = if x = 32 then [] :: splitB 32 p else headB x (splitB 32 p) := rfl
    rw [e, if_neg (h x (List.mem_cons_self ..)), split_word (fun c hc => h c (List.mem_cons_of_mem _ hc))]
    rfl
theorem split_words {q : List UInt8} : ∀ {p : List UInt8}, (∀ c ∈ p, c ≠ 32) → splitB 32 (p ++ 32 :: q) = p :: splitB 32 q
  | [], _ => rfl
  | x :: p, h => by
    have e : splitB 32 (x :: (p ++ 32 :: q)) = if x = 32 then [] :: splitB 32 (p ++ 32 :: q) else headB x (splitB 32 (p ++ 32 :: q)) := rfl
    rw [List.cons_append, e, if_neg (h x (List.mem_cons_self ..)), split_words (fun c hc => h c (List.mem_cons_of_mem _ hc))]
    rfl
def digs (n : Nat) : List UInt8 := if n < 10 then [UInt8.ofNat (48 + n)] else [49, UInt8.ofNat (48 + (n - 10))]
theorem digs_eq {n : Nat} (h : n < 12) : Lib.decDigits n = digs n := by
  unfold digs
  by_cases h1 : n < 10
  · rw [if_pos h1, Lib.decDigits, dif_pos h1]
  · rw [if_neg h1, Lib.decDigits, dif_neg h1, Lib.decDigits, dif_pos (by omega)]
    have e1 : n / 10 = 1 := by omega
    have e2 : n % 10 = n - 10 := by omega
    rw [e1, e2]
    rfl
theorem digs_ok : ∀ n : Nat, n < 12 → (∀ c ∈ digs n, c ≠ 32) ∧ ¬ (digs n).head? = some 45 ∧ (digs n).all digB = true ∧ valB (digs n) = n ∧ ¬ ((digs n).length = 0 ∨ 18 < (digs n).length) := by decide
theorem small_num {n : Nat} (h : n < 12) : (∀ c ∈ Lib.itoa (n : Int), c ≠ 32) ∧ rdP (Lib.itoa (n : Int)) = ((n : Int), true) := by
  obtain ⟨h1, h2, h3, h4, h5⟩ := digs_ok n h
  rw [itoa_nat, digs_eq h]
  refine ⟨h1, ?_⟩
  unfold rdP rdT
  rw [if_neg h2, if_neg h5, if_pos h3, h4]
  simp only [Bool.false_eq_true, if_false]
  rw [if_pos (by rw [itoa_nat, digs_eq h])]
theorem rm_back {x : Mt} (h : x.ok 12 = true) : rmI (mT x) = (x, true) := by
  obtain ⟨k1, k2, k3, k4⟩ := Mt.ok_parts h
  have hT : mT x = wordsT x := by unfold mT; rw [if_pos h]
  obtain ⟨a, b, s, f⟩ := x
  dsimp only at k1 k2 k3 k4
  obtain ⟨a, rfl⟩ : ∃ n : Nat, a = (n : Int) := ⟨a.toNat, by omega⟩
  obtain ⟨b, rfl⟩ : ∃ n : Nat, b = (n : Int) := ⟨b.toNat, by omega⟩
  obtain ⟨s, rfl⟩ : ∃ n : Nat, s = (n : Int) := ⟨s.toNat, by omega⟩
  obtain ⟨a1, a2⟩ := small_num (n := a) (by omega)
  obtain ⟨b1, b2⟩ := small_num (n := b) (by omega)
  obtain ⟨s1, s2⟩ := small_num (n := s) (by omega)
  have hw : ∃ ws, splitB 32 (mT ⟨a, b, s, f⟩) = ws ∧ ¬ ws.length < 3 ∧ wok ws = true ∧ wm ws = ⟨a, b, s, f⟩ := by
    cases f with
    | false =>
      refine ⟨[Lib.itoa (a : Int), Lib.itoa (b : Int), Lib.itoa (s : Int)], ?_, by simp, ?_, ?_⟩
      · rw [hT]
        have e : wordsT ⟨a, b, s, false⟩ = Lib.itoa (a : Int) ++ 32 :: (Lib.itoa (b : Int) ++ 32 :: Lib.itoa (s : Int)) := by simp [wordsT]
        rw [e, split_words a1, split_words b1, split_word s1]
      · simp [wok, a2, b2, s2]
      · simp [wm, a2, b2, s2]
    | true =>
      refine ⟨[Lib.itoa (a : Int), Lib.itoa (b : Int), Lib.itoa (s : Int), [102]], ?_, by simp, ?_, ?_⟩
      · rw [hT]
        have e : wordsT ⟨a, b, s, true⟩ = Lib.itoa (a : Int) ++ 32 :: (Lib.itoa (b : Int) ++ 32 :: (Lib.itoa (s : Int) ++ 32 :: [102])) := by simp [wordsT]
        rw [e, split_words a1, split_words b1, split_words s1]
        rfl
      · simp [wok, a2, b2, s2]
      · simp [wm, a2, b2, s2]
  obtain ⟨ws, e1, e2, e3, e4⟩ := hw
  unfold rmI
  rw [e1, if_neg e2, if_pos ⟨e3, by rw [e4]⟩, e4]
theorem mT_ok {x : Mt} (h : x.ok 12 = true) : (mT x).isEmpty = false := by
  unfold mT
  rw [if_pos h]
  unfold wordsT
  simp [List.isEmpty_eq_false_iff]
theorem mT_bad {x : Mt} (h : ¬ x.ok 12 = true) : mT x = [] := by
  unfold mT
  rw [if_neg h]
theorem rm_nil : rmI [] = (Mt.nil, false) := by
  unfold rmI
  rw [if_pos (by decide)]
theorem rm_text {u : List UInt8} (h : (rmI u).2 = true) : mT (rmI u).1 = u := by
  unfold rmI at h ⊢
  by_cases h1 : (splitB 32 u).length < 3
  · rw [if_pos h1] at h
    cases h
  · rw [if_neg h1] at h ⊢
    by_cases h2 : wok (splitB 32 u) = true ∧ mT (wm (splitB 32 u)) = u
    · rw [if_pos h2]
      exact h2.2
    · rw [if_neg h2] at h
      cases h
theorem mT_len {x : Mt} (h : Small x) : (mT x).length ≤ 1000000 := by
  unfold mT
  split
  · have := wordsT_len h
    omega
  · simp
theorem cross_len {n : Int} {l : List Mt} (h : crossK n l = 0) : ((crossP n l).length : Int) = n := by
  unfold crossK at h
  unfold crossP
  cases hv : mtsOk n l with
  | false => rw [hv] at h; simp at h
  | true =>
    obtain ⟨⟨hn1, hn2⟩, _, _⟩ := mtsOk_parts hv
    rw [if_pos rfl]
    simp [linesX]
    omega
theorem byteP_up {base base' : Nat} {ca : Option Addr} {bs : List Int} {w : World} (h : ByteP base ca bs w) (hb : base ≤ base') : ByteP base' ca bs w := ⟨h.row, h.rng, h.len, fun cb co s e hp => Nat.lt_of_lt_of_le (h.low cb co s e hp) hb⟩

/-! ### the laws' argument -/
set_option maxRecDepth 100000 in
theorem arg_bytes {H : Type} {enc : TypeId × Value → H} {W : World} {base : Nat} {v : Value} {d : DataW H} {q : List MemPlace}
    (hval : Value.okWide Tryd.prog W .any base 40 v) (h : DataW.Trod enc Tryd.prog W 0 (fun _ => true) true 40 v d q) :
    ∃ (a : Option Addr) (c : Nat) (xs : List Int), v = .slice a xs.length c ∧ Bytes W a xs ∧ xs.length ≤ maxLen ∧ (∀ x ∈ xs, 0 ≤ x ∧ x ≤ 255) ∧ (xs.length ≤ 4096 → ByteP W.heap.size a xs W) := by
  obtain ⟨a0, len0, cap0, rfl⟩ := okWide_slice Tryd.underlying40 hval
  obtain ⟨fuel, hf⟩ := h
  have K : ∃ (a : Option Addr) (c : Nat) (xs : List Int), (Value.slice a0 len0 cap0).cells.toList = [.slice a xs.length c] ∧ Bytes W a xs ∧ xs.length ≤ maxLen ∧ (∀ x ∈ xs, 0 ≤ x ∧ x ≤ 255) := by
    rcases open_ints Tryd.underlying40 Tryd.underlying5 (by kernel_rfl) hf with ⟨hcs, hx⟩ | ⟨a, len, cap, zs, hcs, _, hl, hm, hz, hx, hcell, hwz⟩
    · exact ⟨none, 0, [], by simpa using hcs, by intro j v hv; simp at hv, by simp, by simp⟩
    · have hz' : zs.length = cap := by simpa using hz
      have hlen : (zs.take len).length = len := by simp; omega
      refine ⟨some a, cap, zs.take len, by rw [hlen]; exact hcs, ?_, by omega, fun n hn => ?_⟩
      · intro j v hv
        simp only [List.getElem?_map, Option.map_eq_some_iff] at hv
        obtain ⟨n, hn, rfl⟩ := hv
        rw [List.getElem?_take] at hn
        split at hn
        · rename_i hj
          obtain ⟨b, off, ha, hc⟩ := ints_at hcell (by omega)
          refine ⟨b, off, by rw [ha], ?_⟩
          rw [hc j (by omega)]
          simp [List.getD_eq_getElem?_getD, hn]
        · simp at hn
      · have := hwz n (List.mem_of_mem_take hn)
        simpa [Lit.wf, IntKind.min, IntKind.max, IntKind.signed, IntKind.bits] using this
  obtain ⟨a, c, xs, hcs, hb, hl, hr⟩ := K
  refine ⟨a, c, xs, ?_, hb, hl, hr, fun h3 => ⟨hb, hr, h3, fun cb co s hs hp => ?_⟩⟩
  · simp [Value.cells] at hcs
    obtain ⟨rfl, rfl, rfl⟩ := hcs
    rfl
  · obtain ⟨b, off, ha, hc⟩ := hb 0 (.int .u8 xs[0]) (by simp [hp])
    rw [hs] at ha
    cases ha
    exact World.block_lt_of_cell? W _ hc


theorem f6big_c (ca : Option Addr) (n cc : Nat) (w : World) (hn : n ≤ maxLen) :
    Calls Tryd.prog 18 #[.slice ca n cc] w fun e w' => e = .returned (.bool (decide (4096 < (n : Int)))) ∧ w = w' := by
  unfold maxLen at hn
  by_cases h1 : 4096 < (n : Int)
  · go_enter Tryd.func18, Tryd.ntmps18
    go_wp2
    go_ret
    exact ⟨by first | rfl | (rw [decide_eq_true h1]; rfl), rfl⟩
  · go_enter Tryd.func18, Tryd.ntmps18
    go_wp2
    go_ret
    exact ⟨by first | rfl | (rw [decide_eq_false (by omega)]; rfl), rfl⟩


set_option maxHeartbeats 4000000 in
theorem f6texts_c (xs : List ByteArray) (a b : Option Addr) (c d : Nat) (w : World) (ha : Row w a (xs.map Value.string)) (hb : Row w b (xs.map Value.string)) (hm : xs.length ≤ 1000) :
    Calls Tryd.prog 25 #[.slice a xs.length c, .slice b xs.length d] w fun e w' => e = .returned (.bool true) ∧ Below w.heap.size w w' := by
  have HA := Lib.hid ha
  have HB := Lib.hid hb
  clear ha hb
  go_enter Tryd.func25, Tryd.ntmps25
  go_wp2
  go_loopw [5] (fun i wr => ∃ (k n : Nat), k ≤ xs.length ∧ i = .int .i64 k ∧ wr = w.drewN n) (fun i _ => xs.length - (intOf i).toNat)
  case atStart => exact ⟨0, 0, Nat.zero_le _, rfl, rfl⟩
  case round =>
    obtain ⟨k, n, hk, rfl, rfl⟩ := hrel
    by_cases hlt : k < xs.length
    · obtain ⟨ab, ao, e1, hc1⟩ := HA.out k (.string xs[k]) (by simp [hlt])
      obtain ⟨bb, bo, e2, hc2⟩ := HB.out k (.string xs[k]) (by simp [hlt])
      have hki : (k : Int) < (xs.length : Int) := by omega
      subst e1
      subst e2
      go_wp2
      go_quiet (fail)
      go_wp2
      go_roundw
      case rel => exact ⟨k + 1, _, by omega, by go_num, rfl⟩
      case measure => (simp [intOf]; omega)
    · have hki : ¬ (k : Int) < (xs.length : Int) := by omega
      go_wp2
      go_ret
      exact ⟨rfl, below_draws _ _ n⟩


end Go.Proofs.YtbjgigdkbjabaaaDoor
