/- Num: decimal texts read, the program's half (printed by gen/num.py out of TabR). Each contract holds for every argument, under the premises that it states. -/
import Derived.Test.YtenjffoboiohnaaDoorTabS
import Derived.Test.YtenjffoboiohnaaDoorShlw
import Derived.Lib.AppendIntMem
namespace Go.Proofs.YtenjffoboiohnaaDoor
set_option linter.unusedSimpArgs false
set_option linter.unusedVariables false
set_option linter.unnecessarySimpa false
open Go.RowKit Go.ChangeShapes Go.WideShapes Go.ChangeAt Go.Joins

@[reducible] def TabB (w : World) : Prop := Lib.TabBelow Tryd.prog w.heap.size w "internal/strconv.uint64pow10" .u64 Lib.pow10Tab
theorem ba_app (x y : List UInt8) : (⟨x.toArray⟩ : ByteArray) ++ ⟨y.toArray⟩ = ⟨(x ++ y).toArray⟩ := by
  apply ByteArray.ext
  simp
theorem decDigits_le : ∀ (k n : Nat), n < 10 ^ (k + 1) → (Lib.decDigits n).length ≤ k + 1
  | 0, n, h => by rw [Lib.decDigits, dif_pos (by omega)]; simp
  | k + 1, n, h => by
    rw [Lib.decDigits]
    split
    · simp
    · have := decDigits_le k (n / 10) (by rw [Nat.pow_succ] at h; omega)
      simp
      omega
/-! ### in plain terms -/
def digB (b : UInt8) : Bool := decide (48 ≤ b.toNat ∧ b.toNat ≤ 57)
def valB (l : List UInt8) : Nat := l.foldl (fun n b => 10 * n + (b.toNat - 48)) 0
theorem valB_step {l : List UInt8} {k : Nat} (hk : k < l.length) : valB (l.take (k + 1)) = 10 * valB (l.take k) + (l[k].toNat - 48) := by
  unfold valB
  rw [List.take_succ_eq_append_getElem hk, List.foldl_append]
  rfl
theorem valB_lt {l : List UInt8} : ∀ k : Nat, k ≤ l.length → (l.take k).all digB = true → valB (l.take k) < 10 ^ k
  | 0, _, _ => by simp [valB]
  | k + 1, hk, h => by
    rw [valB_step (by omega)]
    rw [List.take_succ_eq_append_getElem (by omega), List.all_append] at h
    simp only [Bool.and_eq_true, List.all_cons, List.all_nil, Bool.and_true] at h
    have h1 := valB_lt k (by omega) h.1
    have h2 := of_decide_eq_true h.2
    rw [Nat.pow_succ]
    omega
theorem valB_18 {l : List UInt8} {k : Nat} (hk : k ≤ l.length) (hl : k ≤ 18) (h : (l.take k).all digB = true) : valB (l.take k) ≤ 999999999999999999 := by
  have h1 := valB_lt k hk h
  have h2 : 10 ^ k ≤ 10 ^ 18 := Nat.pow_le_pow_right (by decide) hl
  omega
theorem valB_17 {l : List UInt8} {k : Nat} (hk : k ≤ l.length) (hl : k < 18) (h : (l.take k).all digB = true) : valB (l.take k) ≤ 99999999999999999 := by
  have h1 := valB_lt k hk h
  have h2 : 10 ^ k ≤ 10 ^ 17 := Nat.pow_le_pow_right (by decide) (by omega)
  omega
theorem all_step {l : List UInt8} {k : Nat} (hk : k < l.length) (h : (l.take k).all digB = true) (hb : digB l[k] = true) : (l.take (k + 1)).all digB = true := by
  rw [List.take_succ_eq_append_getElem hk, List.all_append, h]
  simp [hb]
theorem all_not {l : List UInt8} {k : Nat} (hk : k < l.length) (hb : digB l[k] = false) : l.all digB = false := by
  cases h : l.all digB with
  | false => rfl
  | true =>
    have := List.all_eq_true.1 h l[k] (List.getElem_mem hk)
    rw [hb] at this
    exact absurd this (by simp)
/-- the number that the text t (after a sign, if neg) shows, if the text l is just that of the number -/
def rdT (t : List UInt8) (neg : Bool) (l : List UInt8) : Int × Bool :=
  if t.length = 0 ∨ 18 < t.length then (0, false)
  else if t.all digB = true then (if Lib.itoa (if neg then -(valB t : Int) else (valB t : Int)) = l then ((if neg then -(valB t : Int) else (valB t : Int)), true) else (0, false))
  else (0, false)
def rdP (l : List UInt8) : Int × Bool := if l.head? = some 45 then rdT l.tail true l else rdT l false l
theorem itoa_len {x : Int} (h : -999999999999999999 ≤ x ∧ x ≤ 999999999999999999) : (Lib.itoa x).length ≤ 19 := by
  unfold Lib.itoa
  split
  · have := decDigits_le 17 x.natAbs (by omega)
    simp
    omega
  · have := decDigits_le 17 x.toNat (by omega)
    omega

theorem isDigit_c (b : UInt8) (w : World) : Calls Tryd.prog 44 #[.int .u8 (b.toNat : Int)] w fun e w' => e = .returned (.bool (digB b)) ∧ w' = w := by
  by_cases h1 : 48 ≤ b.toNat
  · have h1I : (48 : Int) ≤ (b.toNat : Int) := by omega
    by_cases h2 : b.toNat ≤ 57
    · have h2I : (b.toNat : Int) ≤ 57 := by omega
      have HE : Hid (digB b = true) := decide_eq_true ⟨h1, h2⟩
      go_enter Tryd.func44, Tryd.ntmps44
      go_wp2
      go_ret
      exact ⟨by rw [HE.out]; first | rfl | simp, rfl⟩
    · have h2I : ¬ (b.toNat : Int) ≤ 57 := by omega
      have HE : Hid (digB b = false) := decide_eq_false (fun e => h2 e.2)
      go_enter Tryd.func44, Tryd.ntmps44
      go_wp2
      go_ret
      exact ⟨by rw [HE.out]; first | rfl | simp, rfl⟩
  · have h1I : ¬ (48 : Int) ≤ (b.toNat : Int) := by omega
    have HE : Hid (digB b = false) := decide_eq_false (fun e => h1 e.1)
    go_enter Tryd.func44, Tryd.ntmps44
    go_wp2
    go_ret
    exact ⟨by rw [HE.out]; first | rfl | simp, rfl⟩

theorem DecimalI_c (x : Int) (w : World) (hx : -999999999999999999 ≤ x ∧ x ≤ 999999999999999999) (ht : Lib.TabIs Tryd.prog w "internal/strconv.uint64pow10" .u64 Lib.pow10Tab) :
    Calls Tryd.prog 28 #[.int .i64 x] w fun e w' => e = .returned (.string ⟨(Lib.itoa x).toArray⟩) ∧ Below w.heap.size w w' := by
  have HC := Lib.hid (Tryd.strconv_FormatInt_10 x (by omega) (by omega) w ht)
  go_enter Tryd.func28, Tryd.ntmps28
  go_wp2_with fail
  refine HC.out.mono ?_
  rintro e w1 ⟨rfl, k, os, hw1⟩
  have HB : Hid (Below w.heap.size w w1) := by
    rw [hw1]
    exact Lib.below_grow _ _ (Nat.le_refl _) _ _
  clear hw1 HC
  go_wp2
  go_ret
  exact ⟨rfl, HB.out⟩

theorem itoa_nat (n : Nat) : Lib.itoa (n : Int) = Lib.decDigits n := by
  unfold Lib.itoa
  rw [if_neg (by omega)]
  simp
theorem boxP_keep {w w' : World} {g : Nat} {cs : List Value} (h : BoxP g cs w) (hb : Below w.heap.size w w') : BoxP g cs w' := fun j v hv =>
  (hb.cell (show (Addr.mk g j none).block < _ from World.block_lt_of_cell? w _ (h j v hv))).trans (h j v hv)

theorem DecimalS_c (n : Nat) (w : World) (h : n < 100) : Calls Tryd.prog 28 #[.int .i64 (n : Int)] w fun e w' => e = .returned (.string ⟨(Lib.itoa (n : Int)).toArray⟩) ∧ w' = w := by
  have HC := Lib.hid (Tryd.strconv_FormatInt_10_small n h w)
  rw [itoa_nat]
  go_enter Tryd.func28, Tryd.ntmps28
  go_wp2_with fail
  refine HC.out.mono ?_
  rintro e w1 ⟨rfl, rfl⟩
  clear HC
  go_wp2
  go_ret
  exact ⟨rfl, rfl⟩

set_option maxRecDepth 100000 in
set_option maxHeartbeats 16000000 in
theorem ReadDecimal_c (l : List UInt8) (w : World) (HT0 : TabB w) (hl : l.length ≤ 1000000) :
    Calls Tryd.prog 25 #[.string ⟨l.toArray⟩] w fun e w' => e = .returned (.tuple #[.int .i64 (rdP l).1, .bool (rdP l).2]) ∧ Below w.heap.size w w' := by
  have hsz : ∀ x : List UInt8, (ByteArray.mk x.toArray).size = x.length := str_size
  have hex := ByteArray.extract_mk
  have HT := Lib.hid HT0
  clear HT0
  by_cases hn : l = []
  · subst hn
    have HF : Hid (rdP [] = (0, false)) := rfl
    clear hsz hex
    go_enter Tryd.func25, Tryd.ntmps25
    go_wp2
    go_ret2
    exact ⟨by rw [HF.out]; rfl, Below.refl _ _⟩
  have hp : 0 < l.length := List.length_pos_iff.2 hn
  have hpI : (0 : Int) < (l.length : Int) := by omega
  have hnq : (l != []) = true := by simpa using hn
  have hge0 : (ByteArray.mk l.toArray)[0]'(by rw [str_size]; exact hp) = l[0] := by simp [ByteArray.getElem_eq_getElem_data]
  have hnS : l.isEmpty = false := by cases l with | nil => exact absurd rfl hn | cons a b => rfl
  by_cases hm : l[0] = 45
  · rw [hm] at hge0
    obtain ⟨t, ht⟩ : ∃ t, t = l.tail := ⟨_, rfl⟩
    have HP : Hid (rdP l = rdT t true l) := by
      unfold Hid rdP
      rw [if_pos (by rw [List.head?_eq_getElem?, List.getElem?_eq_getElem hp, hm]), ht]
    have HTL : Hid (t.length + 1 = l.length) := by unfold Hid; rw [ht, List.length_tail]; omega
    have hkt : l.tail.take (l.length - 1) = t := by rw [ht]; exact List.take_of_length_le (by simp)
    have h1l : (1 : Int) ≤ (l.length : Int) := by omega
    clear ht hm
    go_enter Tryd.func25, Tryd.ntmps25
    go_upto_region 4 with fail
    clear hkt hge0 hnq hn h1l hnS
    by_cases h0 : t.length = 0
    · have HF : Hid (rdP l = (0, false)) := by
        unfold Hid
        rw [HP.out, rdT, if_pos (Or.inl h0)]
      have hz : (t.length : Int) = 0 := by omega
      go_wp2
      go_ret2
      exact ⟨by rw [HF.out]; rfl, Below.refl _ _⟩
    by_cases h18 : 18 < t.length
    · have HF : Hid (rdP l = (0, false)) := by
        unfold Hid
        rw [HP.out, rdT, if_pos (Or.inr h18)]
      have hz : ¬ (t.length : Int) = 0 := by omega
      have hz2 : ((t.length : Int) == 0) = false := by simpa using hz
      have hz3 : ¬ (t.length : Int) < 1 := by omega
      have h18I : (18 : Int) < (t.length : Int) := by omega
      go_wp2
      go_ret2
      exact ⟨by rw [HF.out]; rfl, Below.refl _ _⟩
    have HP2 : Hid (rdP l = if t.all digB = true then (if Lib.itoa (-(valB t : Int)) = l then (-(valB t : Int), true) else (0, false)) else (0, false)) := by
      unfold Hid
      rw [HP.out, rdT, if_neg (by omega)]
      rfl
    have hz : ¬ (t.length : Int) = 0 := by omega
    have hz2 : ((t.length : Int) == 0) = false := by simpa using hz
    have hz3 : ¬ (t.length : Int) < 1 := by omega
    have h18I : ¬ (18 : Int) < (t.length : Int) := by omega
    have hnT : ¬ t = [] := by intro e; rw [e] at h0; exact h0 rfl
    clear HP
    go_wp2_with fail
    go_loopw [5, 28] (fun v i wr => ∃ k : Nat, i = .int .i64 (k : Int) ∧ v = .int .i64 ((valB (t.take k) : Nat) : Int) ∧ k ≤ t.length ∧ Hid ((t.take k).all digB = true) ∧ Hid (Below w.heap.size w wr)) (fun _ i _ => t.length - (intOf i).toNat)
    case atStart => exact ⟨0, rfl, rfl, Nat.zero_le _, Lib.hid rfl, Lib.hid (Below.refl _ _)⟩
    case round =>
      obtain ⟨k, rfl, rfl, hk, HA, HB⟩ := hrel
      by_cases hlt : k < t.length
      · have hkI : (k : Int) < (t.length : Int) := by omega
        have hstep := valB_step hlt
        have hbd := valB_17 hk (by omega) HA.out
        have hallT : digB t[k] = true → (t.take (k + 1)).all digB = true := fun hb => all_step hlt HA.out hb
        have hallF : digB t[k] = false → t.all digB = false := fun hb => all_not hlt hb
        have hge : (ByteArray.mk t.toArray)[k]'(by rw [str_size]; exact hlt) = t[k] := by simp [ByteArray.getElem_eq_getElem_data]
        obtain ⟨b, hb⟩ : ∃ b, b = t[k] := ⟨_, rfl⟩
        obtain ⟨V, hV⟩ : ∃ V, V = valB (t.take k) := ⟨_, rfl⟩
        rw [← hb] at hge hstep hallT hallF
        rw [← hV] at hstep hbd
        rw [← hV]
        have HST := Lib.hid hstep
        clear hb hV hstep
        cases hd : digB b with
        | false =>
          have HF : Hid (rdP l = (0, false)) := by
            unfold Hid
            rw [HP2.out, hallF hd, if_neg (by simp)]
          have HD := Lib.hid (isDigit_c b wr)
          rw [hd] at HD
          clear HP2 hallT hallF HST HA hd
          go_wp2_with fail
          refine HD.out.mono ?_
          rintro e w2 ⟨rfl, rfl⟩
          clear HD
          go_wp2
          go_ret2
          exact ⟨by rw [HF.out]; rfl, HB.out⟩
        | true =>
          have HA2 := Lib.hid (hallT hd)
          obtain ⟨hb1, hb2⟩ := of_decide_eq_true hd
          have HD := Lib.hid (isDigit_c b wr)
          rw [hd] at HD
          have hw1 : IntKind.i64.wrap (10 * (V : Int)) = 10 * (V : Int) := IntWalk.i64_in _ (by omega)
          have hw2 : IntKind.u8.wrap ((b.toNat : Int) - 48) = (b.toNat : Int) - 48 := IntWalk.u8_in _ (by omega)
          have hw3 : IntKind.i64.wrap ((b.toNat : Int) - 48) = (b.toNat : Int) - 48 := IntWalk.i64_in _ (by omega)
          have hw4 : IntKind.i64.wrap (10 * (V : Int) + ((b.toNat : Int) - 48)) = 10 * (V : Int) + ((b.toNat : Int) - 48) := IntWalk.i64_in _ (by omega)
          have hw5 : IntKind.i64.wrap ((k : Int) + 1) = (k : Int) + 1 := IntWalk.i64_in _ (by omega)
          have HBN : Hid (48 ≤ b.toNat) := hb1
          clear HP2 hallT hallF HA hd hb1 hb2 hbd
          go_wp2_with fail
          refine HD.out.mono ?_
          rintro e w2 ⟨rfl, rfl⟩
          clear HD
          go_wp2
          go_roundw
          case rel => exact ⟨k + 1, by go_num, by rw [HST.out]; have := HBN.out; congr 1; omega, by omega, HA2, HB⟩
          case measure => simp [intOf]; omega
      · have hkl : k = t.length := by omega
        subst hkl
        rw [List.take_length] at HA
        rw [List.take_length]
        have hkI : ¬ (t.length : Int) < (t.length : Int) := by omega
        have hbd := valB_18 (Nat.le_refl t.length) (by omega) (by rw [List.take_length]; exact HA.out)
        rw [List.take_length] at hbd
        rw [HA.out, if_pos rfl] at HP2
        obtain ⟨V, hV⟩ : ∃ V, V = valB t := ⟨_, rfl⟩
        rw [← hV] at hbd HP2
        rw [← hV]
        obtain ⟨X, hX⟩ : ∃ X, X = Lib.itoa (-(V : Int)) := ⟨_, rfl⟩
        have HD := Lib.hid (DecimalI_c (-(V : Int)) wr ⟨by omega, by omega⟩ (HT.out wr HB.out))
        rw [← hX] at HD HP2
        have hlt : t.length < l.length := by have := HTL.out; omega
        have hltI : (t.length : Int) < (l.length : Int) := by omega
        have hwn : IntKind.i64.wrap (-(V : Int)) = -(V : Int) := IntWalk.i64_in _ (by omega)
        clear hV hX HA
        by_cases he : X = l
        · have heq : (X == l) = true := by simpa using he
          have hne : (X != l) = false := by simpa using he
          have HF : Hid (rdP l = (-(V : Int), true)) := by
            unfold Hid
            rw [HP2.out, if_pos he]
          clear HP2 he
          go_wp2_with fail
          refine HD.out.mono ?_
          rintro e w2 ⟨rfl, hb2⟩
          have HB2 := Lib.hid (below_next HB.out hb2)
          clear HD hb2 HB
          go_wp2
          go_ret2
          exact ⟨by rw [HF.out]; rfl, HB2.out⟩
        · have heq : (X == l) = false := by simpa using he
          have hne : (X != l) = true := by simpa using he
          have HF : Hid (rdP l = (0, false)) := by
            unfold Hid
            rw [HP2.out, if_neg he]
          clear HP2 he
          go_wp2_with fail
          refine HD.out.mono ?_
          rintro e w2 ⟨rfl, hb2⟩
          have HB2 := Lib.hid (below_next HB.out hb2)
          clear HD hb2 HB
          go_wp2
          go_ret2
          exact ⟨by rw [HF.out]; rfl, HB2.out⟩
  · have hmb : ¬ (l[0].toNat : Int) = 45 := fun e => hm (by apply UInt8.toNat_inj.1; have h0 : (45 : UInt8).toNat = 45 := rfl; omega)
    have hmq : ((l[0].toNat : Int) == 45) = false := by simpa using hmb
    have HP : Hid (rdP l = rdT l false l) := by
      unfold Hid rdP
      rw [if_neg (by rw [List.head?_eq_getElem?, List.getElem?_eq_getElem hp]; simpa using hm)]
    have hmn : ¬ l[0].toNat = 45 := by omega
    go_enter Tryd.func25, Tryd.ntmps25
    go_upto_region 4 with fail
    clear hge0 hnq hn hmb hmq hm hmn hnS
    by_cases h0 : l.length = 0
    · have HF : Hid (rdP l = (0, false)) := by
        unfold Hid
        rw [HP.out, rdT, if_pos (Or.inl h0)]
      have hz : (l.length : Int) = 0 := by omega
      go_wp2
      go_ret2
      exact ⟨by rw [HF.out]; rfl, Below.refl _ _⟩
    by_cases h18 : 18 < l.length
    · have HF : Hid (rdP l = (0, false)) := by
        unfold Hid
        rw [HP.out, rdT, if_pos (Or.inr h18)]
      have hz : ¬ (l.length : Int) = 0 := by omega
      have hz2 : ((l.length : Int) == 0) = false := by simpa using hz
      have hz3 : ¬ (l.length : Int) < 1 := by omega
      have h18I : (18 : Int) < (l.length : Int) := by omega
      go_wp2
      go_ret2
      exact ⟨by rw [HF.out]; rfl, Below.refl _ _⟩
    have HP2 : Hid (rdP l = if l.all digB = true then (if Lib.itoa ((valB l : Int)) = l then ((valB l : Int), true) else (0, false)) else (0, false)) := by
      unfold Hid
      rw [HP.out, rdT, if_neg (by omega)]
      rfl
    have hz : ¬ (l.length : Int) = 0 := by omega
    have hz2 : ((l.length : Int) == 0) = false := by simpa using hz
    have hz3 : ¬ (l.length : Int) < 1 := by omega
    have h18I : ¬ (18 : Int) < (l.length : Int) := by omega
    have hnT : ¬ l = [] := by intro e; rw [e] at h0; exact h0 rfl
    clear HP
    go_wp2_with fail
    go_loopw [5, 28] (fun v i wr => ∃ k : Nat, i = .int .i64 (k : Int) ∧ v = .int .i64 ((valB (l.take k) : Nat) : Int) ∧ k ≤ l.length ∧ Hid ((l.take k).all digB = true) ∧ Hid (Below w.heap.size w wr)) (fun _ i _ => l.length - (intOf i).toNat)
    case atStart => exact ⟨0, rfl, rfl, Nat.zero_le _, Lib.hid rfl, Lib.hid (Below.refl _ _)⟩
    case round =>
      obtain ⟨k, rfl, rfl, hk, HA, HB⟩ := hrel
      by_cases hlt : k < l.length
      · have hkI : (k : Int) < (l.length : Int) := by omega
        have hstep := valB_step hlt
        have hbd := valB_17 hk (by omega) HA.out
        have hallT : digB l[k] = true → (l.take (k + 1)).all digB = true := fun hb => all_step hlt HA.out hb
        have hallF : digB l[k] = false → l.all digB = false := fun hb => all_not hlt hb
        have hge : (ByteArray.mk l.toArray)[k]'(by rw [str_size]; exact hlt) = l[k] := by simp [ByteArray.getElem_eq_getElem_data]
        obtain ⟨b, hb⟩ : ∃ b, b = l[k] := ⟨_, rfl⟩
        obtain ⟨V, hV⟩ : ∃ V, V = valB (l.take k) := ⟨_, rfl⟩
        rw [← hb] at hge hstep hallT hallF
        rw [← hV] at hstep hbd
        rw [← hV]
        have HST := Lib.hid hstep
        clear hb hV hstep
        cases hd : digB b with
        | false =>
          have HF : Hid (rdP l = (0, false)) := by
            unfold Hid
            rw [HP2.out, hallF hd, if_neg (by simp)]
          have HD := Lib.hid (isDigit_c b wr)
          rw [hd] at HD
          clear HP2 hallT hallF HST HA hd
          go_wp2_with fail
          refine HD.out.mono ?_
          rintro e w2 ⟨rfl, rfl⟩
          clear HD
          go_wp2
          go_ret2
          exact ⟨by rw [HF.out]; rfl, HB.out⟩
        | true =>
          have HA2 := Lib.hid (hallT hd)
          obtain ⟨hb1, hb2⟩ := of_decide_eq_true hd
          have HD := Lib.hid (isDigit_c b wr)
          rw [hd] at HD
          have hw1 : IntKind.i64.wrap (10 * (V : Int)) = 10 * (V : Int) := IntWalk.i64_in _ (by omega)
          have hw2 : IntKind.u8.wrap ((b.toNat : Int) - 48) = (b.toNat : Int) - 48 := IntWalk.u8_in _ (by omega)
          have hw3 : IntKind.i64.wrap ((b.toNat : Int) - 48) = (b.toNat : Int) - 48 := IntWalk.i64_in _ (by omega)
          have hw4 : IntKind.i64.wrap (10 * (V : Int) + ((b.toNat : Int) - 48)) = 10 * (V : Int) + ((b.toNat : Int) - 48) := IntWalk.i64_in _ (by omega)
          have hw5 : IntKind.i64.wrap ((k : Int) + 1) = (k : Int) + 1 := IntWalk.i64_in _ (by omega)
          have HBN : Hid (48 ≤ b.toNat) := hb1
          clear HP2 hallT hallF HA hd hb1 hb2 hbd
          go_wp2_with fail
          refine HD.out.mono ?_
          rintro e w2 ⟨rfl, rfl⟩
          clear HD
          go_wp2
          go_roundw
          case rel => exact ⟨k + 1, by go_num, by rw [HST.out]; have := HBN.out; congr 1; omega, by omega, HA2, HB⟩
          case measure => simp [intOf]; omega
      · have hkl : k = l.length := by omega
        subst hkl
        rw [List.take_length] at HA
        rw [List.take_length]
        have hkI : ¬ (l.length : Int) < (l.length : Int) := by omega
        have hbd := valB_18 (Nat.le_refl l.length) (by omega) (by rw [List.take_length]; exact HA.out)
        rw [List.take_length] at hbd
        rw [HA.out, if_pos rfl] at HP2
        obtain ⟨V, hV⟩ : ∃ V, V = valB l := ⟨_, rfl⟩
        rw [← hV] at hbd HP2
        rw [← hV]
        obtain ⟨X, hX⟩ : ∃ X, X = Lib.itoa ((V : Int)) := ⟨_, rfl⟩
        have HD := Lib.hid (DecimalI_c ((V : Int)) wr ⟨by omega, by omega⟩ (HT.out wr HB.out))
        rw [← hX] at HD HP2
        have hltI : ¬ (l.length : Int) < (l.length : Int) := by omega
        clear hV hX HA
        by_cases he : X = l
        · have heq : (X == l) = true := by simpa using he
          have hne : (X != l) = false := by simpa using he
          have HF : Hid (rdP l = ((V : Int), true)) := by
            unfold Hid
            rw [HP2.out, if_pos he]
          clear HP2 he
          go_wp2_with fail
          refine HD.out.mono ?_
          rintro e w2 ⟨rfl, hb2⟩
          have HB2 := Lib.hid (below_next HB.out hb2)
          clear HD hb2 HB
          go_wp2
          go_ret2
          exact ⟨by rw [HF.out]; rfl, HB2.out⟩
        · have heq : (X == l) = false := by simpa using he
          have hne : (X != l) = true := by simpa using he
          have HF : Hid (rdP l = (0, false)) := by
            unfold Hid
            rw [HP2.out, if_neg he]
          clear HP2 he
          go_wp2_with fail
          refine HD.out.mono ?_
          rintro e w2 ⟨rfl, hb2⟩
          have HB2 := Lib.hid (below_next HB.out hb2)
          clear HD hb2 HB
          go_wp2
          go_ret2
          exact ⟨by rw [HF.out]; rfl, HB2.out⟩
end Go.Proofs.YtenjffoboiohnaaDoor
