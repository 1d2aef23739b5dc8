/- Tab19: the law's argument, and lists of numbers compared. Each contract holds for every argument, under the premises that it states. -/
import Derived.Test.YtbjgigdkbjabaaaTab18
import Derived.Test.YtbjgigdkbjabaaaTab15
namespace Go.Proofs.Ytbjgigdkbjabaaa
set_option linter.unusedSimpArgs false
set_option linter.unusedVariables false
set_option linter.unnecessarySimpa false
open Go.RowKit Go.ChangeShapes Go.WideShapes Go.ChangeAt Go.Joins

theorem Fr.intsP {w0 w : World} {ls : List Res} (h : Fr w0 w ls) {lo c : Nat} {a : Option Addr} {xs : List Int} (hm : OwnI w lo a c xs) : Fr w0 w (⟨lo, w.heap.size, PcsP lo w.heap.size [pieceI a c xs]⟩ :: ls) :=
  h.pcs ⟨fun q hq => by obtain rfl := List.mem_singleton.1 hq; exact hm, List.pairwise_singleton _ _⟩
theorem ints_own {w : World} {lo hi c : Nat} {a : Option Addr} {xs : List Int} (h : PcsP lo hi [pieceI a c xs] w) : OwnI w lo a c xs := h.1.all _ (List.mem_singleton.2 rfl)
theorem sumN_bd {f : Nat → Int} {C : Int} (hC : 0 ≤ C) : ∀ {k : Nat}, (∀ i, i < k → - C ≤ f i ∧ f i ≤ C) → - (C * (k : Int)) ≤ sumN f k ∧ sumN f k ≤ C * (k : Int)
  | 0, _ => by simp [sumN]
  | k + 1, h => by
    have h1 := sumN_bd hC (fun i hi => h i (by omega) : ∀ i, i < k → - C ≤ f i ∧ f i ≤ C)
    have h2 := h k (by omega)
    have e : C * ((k + 1 : Nat) : Int) = C * (k : Int) + C := by rw [Int.natCast_add, Int.mul_add]; simp
    simp only [sumN]
    rw [e]
    omega
theorem turnM_len (l : List Mt) : (turnM l).length = l.length := by simp [turnM]
theorem turnM_step {l : List Mt} {j : Nat} (hj : j < l.length) : (turnM l).take (j + 1) = (turnM l).take j ++ [Mt.turn (l[l.length - 1 - j])] := by
  have h : j < (turnM l).length := by rw [turnM_len]; exact hj
  rw [List.take_succ_eq_append_getElem h]
  congr 2
  simp [turnM]
theorem mtsOk_turn {n : Int} {l : List Mt} (h : mtsOk n l = true) : mtsOk n (turnM l) = true := by
  obtain ⟨h1, h2, h3⟩ := mtsOk_parts h
  simp only [mtsOk, Bool.and_eq_true, decide_eq_true_eq]
  refine ⟨⟨inB_iff.2 h1, by rw [turnM_len]; exact h2⟩, ?_⟩
  have : ∀ k : List Mt, (∀ x ∈ k, x.ok n = true) → okFrom n k = true := by
    intro k
    induction k with
    | nil => intro _; rfl
    | cons x k ih =>
      intro hk
      simp only [okFrom, Bool.and_eq_true]
      exact ⟨hk x (List.mem_cons_self ..), ih (fun y hy => hk y (List.mem_cons_of_mem _ hy))⟩
  refine this _ (fun x hx => ?_)
  unfold turnM at hx
  obtain ⟨y, hy, rfl⟩ := List.mem_map.1 hx
  exact Mt.turn_ok (h3 y (List.mem_reverse.1 hy))
theorem tableP_turn {n : Int} {l : List Mt} (h : mtsOk n l = true) : tableP n (turnM l) = tableP n l ∧ tableK n (turnM l) = 0 := by
  unfold tableP tableK
  rw [h, mtsOk_turn h, rowsP_turn]
  exact ⟨rfl, rfl⟩

/-! ### the laws' argument -/
set_option maxRecDepth 100000 in
theorem arg_bytes {H : Type} {enc : TypeId × Value → H} {W : World} {base : Nat} {v : Value} {d : DataW H} {q : List MemPlace}
    (hval : Value.okWide Try.prog W .any base 75 v) (h : DataW.Trod enc Try.prog W 0 (fun _ => true) true 75 v d q) :
    ∃ (a : Option Addr) (c : Nat) (xs : List Int), v = .slice a xs.length c ∧ Bytes W a xs ∧ xs.length ≤ maxLen ∧ (∀ x ∈ xs, 0 ≤ x ∧ x ≤ 255) ∧ (xs.length ≤ 4096 → ByteP W.heap.size a xs W) := by
  obtain ⟨a0, len0, cap0, rfl⟩ := okWide_slice Try.underlying75 hval
  obtain ⟨fuel, hf⟩ := h
  have K : ∃ (a : Option Addr) (c : Nat) (xs : List Int), (Value.slice a0 len0 cap0).cells.toList = [.slice a xs.length c] ∧ Bytes W a xs ∧ xs.length ≤ maxLen ∧ (∀ x ∈ xs, 0 ≤ x ∧ x ≤ 255) := by
    rcases open_ints Try.underlying75 Try.underlying5 (by kernel_rfl) hf with ⟨hcs, hx⟩ | ⟨a, len, cap, zs, hcs, _, hl, hm, hz, hx, hcell, hwz⟩
    · exact ⟨none, 0, [], by simpa using hcs, by intro j v hv; simp at hv, by simp, by simp⟩
    · have hz' : zs.length = cap := by simpa using hz
      have hlen : (zs.take len).length = len := by simp; omega
      refine ⟨some a, cap, zs.take len, by rw [hlen]; exact hcs, ?_, by omega, fun n hn => ?_⟩
      · intro j v hv
        simp only [List.getElem?_map, Option.map_eq_some_iff] at hv
        obtain ⟨n, hn, rfl⟩ := hv
        rw [List.getElem?_take] at hn
        split at hn
        · rename_i hj
          obtain ⟨b, off, ha, hc⟩ := ints_at hcell (by omega)
          refine ⟨b, off, by rw [ha], ?_⟩
          rw [hc j (by omega)]
          simp [List.getD_eq_getElem?_getD, hn]
        · simp at hn
      · have := hwz n (List.mem_of_mem_take hn)
        simpa [Lit.wf, IntKind.min, IntKind.max, IntKind.signed, IntKind.bits] using this
  obtain ⟨a, c, xs, hcs, hb, hl, hr⟩ := K
  refine ⟨a, c, xs, ?_, hb, hl, hr, fun h3 => ⟨hb, hr, h3, fun cb co s hs hp => ?_⟩⟩
  · simp [Value.cells] at hcs
    obtain ⟨rfl, rfl, rfl⟩ := hcs
    rfl
  · obtain ⟨b, off, ha, hc⟩ := hb 0 (.int .u8 xs[0]) (by simp [hp])
    rw [hs] at ha
    cases ha
    exact World.block_lt_of_cell? W _ hc


set_option maxHeartbeats 1000000 in
theorem f6ints_c (a b : Option Addr) (c d : Nat) (xs ys : List Int) (w : World) (ha : Ints w a xs) (hb : Ints w b ys) (hm : xs.length ≤ maxLen) (hm' : ys.length ≤ maxLen) :
    Calls Try.prog 52 #[.slice a xs.length c, .slice b ys.length d] w fun e w' => e = .returned (.bool (decide (xs = ys))) ∧ ∃ m, w' = w.drewN m := by
  unfold maxLen at hm hm'
  by_cases hl : xs.length = ys.length
  · have HL := Lib.hid hl
    have hT : ((xs.length : Int) != ys.length) = false := by simp [hl]
    clear hl
    go_enter Try.func52, Try.ntmps52
    go_wp2
    go_loopw [5] (fun i wr => ∃ k : Nat, k ≤ xs.length ∧ i = .int .i64 k ∧ Hid (∀ j (h : j < k) (h1 : j < xs.length) (h2 : j < ys.length), xs[j] = ys[j]) ∧ ∃ m, wr = w.drewN m) (fun i _ => xs.length - (intOf i).toNat)
    case atStart => exact ⟨0, Nat.zero_le _, rfl, fun j h => absurd h (by omega), 0, rfl⟩
    case round =>
      obtain ⟨k, hk, rfl, hne, m, rfl⟩ := hrel
      by_cases hlt : k < xs.length
      · have hlt' : k < ys.length := by have := HL.out; omega
        obtain ⟨b1, o1, rfl, hb1, hc1⟩ := Ints.at ha hlt
        obtain ⟨b2, o2, rfl, hb2, hc2⟩ := Ints.at hb hlt'
        go_wp2
        go_quiet (fail)
        go_wp2
        · have hne' : (xs[k] != ys[k]) = true := by assumption
          go_ret
          refine ⟨ret_bool (decide_eq_false (fun e => ?_)).symm, by first | exact ⟨_, rfl⟩ | exact ⟨_, World.drewN_drewN ..⟩⟩
          subst e
          simp at hne'
        · have he : (xs[k] != ys[k]) = false := by assumption
          go_roundw
          case rel =>
            refine ⟨k + 1, by omega, by go_num, fun j h h1 h2 => ?_, _, rfl⟩
            by_cases e : j = k
            · subst e; simpa using he
            · exact hne.out j (by omega) h1 h2
          case measure => simp [intOf]; omega
      · go_wp2
        go_ret
        refine ⟨ret_bool (decide_eq_true (list_eq_of HL.out (fun j h1 h2 => hne.out j (by omega) h1 h2))).symm, _, rfl⟩
  · have hT : ((xs.length : Int) != ys.length) = true := by rw [bne_iff_ne]; omega
    have hF : decide (xs = ys) = false := decide_eq_false (fun e => hl (by rw [e]))
    have HF := Lib.hid hF
    clear hF hl
    go_enter Try.func52, Try.ntmps52
    go_wp2
    go_ret
    exact ⟨by rw [HF.out]; rfl, 0, rfl⟩

theorem f6big_c (ca : Option Addr) (n cc : Nat) (w : World) (hn : n ≤ maxLen) :
    Calls Try.prog 45 #[.slice ca n cc] w fun e w' => e = .returned (.bool (decide (4096 < (n : Int)))) ∧ w = w' := by
  unfold maxLen at hn
  by_cases h1 : 4096 < (n : Int)
  · go_enter Try.func45, Try.ntmps45
    go_wp2
    go_ret
    exact ⟨by first | rfl | (rw [decide_eq_true h1]; rfl), rfl⟩
  · go_enter Try.func45, Try.ntmps45
    go_wp2
    go_ret
    exact ⟨by first | rfl | (rw [decide_eq_false (by omega)]; rfl), rfl⟩

end Go.Proofs.Ytbjgigdkbjabaaa
