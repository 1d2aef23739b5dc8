/- TabS: texts that are cut and parted at a byte: both sides. Each contract holds for every argument, under the premises that it states. -/
import Derived.Test.YtenjffoboiohnaaDoorBase
import Derived.Test.YtenjffoboiohnaaDoorRowed
import Derived.Test.YtenjffoboiohnaaDoorRules
import Derived.Deep.CutRange
import Derived.Laws.DeepStrings4
import Derived.Test.YtenjffoboiohnaaDoorFrame
namespace Go.Proofs.YtenjffoboiohnaaDoor
set_option linter.unusedSimpArgs false
set_option linter.unusedVariables false
set_option linter.unnecessarySimpa false
open Go.RowKit Go.ChangeShapes Go.WideShapes Go.ChangeAt Go.Joins

/-! ### in plain terms -/
def cutB (c : UInt8) : List UInt8 → List UInt8 × List UInt8 × Bool
  | [] => ([], [], false)
  | x :: l => if x = c then ([], l, true) else (x :: (cutB c l).1, (cutB c l).2.1, (cutB c l).2.2)
def glueB (h : List UInt8) (r : List UInt8 × List UInt8 × Bool) : List UInt8 × List UInt8 × Bool := (h ++ r.1, r.2.1, r.2.2)
theorem cutB_step {c : UInt8} {l : List UInt8} {k : Nat} (hk : k < l.length) (h : ¬ l[k] = c) : glueB (l.take k) (cutB c (l.drop k)) = glueB (l.take (k + 1)) (cutB c (l.drop (k + 1))) := by
  rw [List.drop_eq_getElem_cons hk, cutB, if_neg h, List.take_succ_eq_append_getElem hk]
  simp only [glueB, List.append_assoc, List.cons_append, List.nil_append]
theorem cutB_hit {c : UInt8} {l : List UInt8} {k : Nat} (hk : k < l.length) (h : l[k] = c) : glueB (l.take k) (cutB c (l.drop k)) = (l.take k, l.drop (k + 1), true) := by
  rw [List.drop_eq_getElem_cons hk, cutB, if_pos h]
  simp [glueB]
theorem cutB_end {c : UInt8} (l : List UInt8) : glueB (l.take l.length) (cutB c (l.drop l.length)) = (l, [], false) := by
  rw [List.drop_length, List.take_length]
  simp [glueB, cutB]
theorem cutB_start (c : UInt8) (l : List UInt8) : glueB (l.take 0) (cutB c (l.drop 0)) = cutB c l := by simp [glueB]
theorem str_size (l : List UInt8) : (ByteArray.mk l.toArray).size = l.length := by simp [ByteArray.size]
theorem take_one {l : List UInt8} {k : Nat} (hk : k < l.length) : (l.drop k).take 1 = [l[k]] := by
  rw [List.drop_eq_getElem_cons hk]
  rfl

set_option maxRecDepth 100000 in
set_option maxHeartbeats 8000000 in
theorem cut_c (c : UInt8) (l : List UInt8) (w : World) (hl : l.length ≤ 1000000) :
    Calls Tryd.prog 26 #[.string ⟨l.toArray⟩, .string ⟨[c].toArray⟩] w fun e w' => e = .returned (.tuple #[.string ⟨(cutB c l).1.toArray⟩, .string ⟨(cutB c l).2.1.toArray⟩, .bool (cutB c l).2.2]) ∧ Below w.heap.size w w' := by
  have HC := Lib.hid (cutB_start c l)
  go_enter Tryd.func26, Tryd.ntmps26
  go_wp2_with fail
  go_loopw [7] (fun i wr => ∃ (k : Nat), i = .int .i64 (k : Int) ∧ k ≤ l.length ∧ Hid (glueB (l.take k) (cutB c (l.drop k)) = cutB c l) ∧ Hid (Below w.heap.size w wr)) (fun i _ => l.length - (intOf i).toNat)
  case atStart => exact ⟨0, rfl, Nat.zero_le _, HC, Lib.hid (Below.refl _ _)⟩
  case round =>
    clear HC
    obtain ⟨k, rfl, hk, HC, HW⟩ := hrel
    have hsz : ∀ x : List UInt8, (ByteArray.mk x.toArray).size = x.length := str_size
    have hex := ByteArray.extract_mk
    have hw1 : IntKind.i64.wrap ((k : Int) + 1) = (k : Int) + 1 := IntWalk.i64_in _ (by omega)
    by_cases hlt : k < l.length
    · have hk1 : (k : Int) + 1 ≤ (l.length : Int) := by omega
      have ht1 := take_one hlt
      by_cases hc : l[k] = c
      · have HE : Hid (cutB c l = (l.take k, l.drop (k + 1), true)) := by rw [← cutB_hit hlt hc]; exact HC.out.symm
        have hkI : (k : Int) ≤ (l.length : Int) := by omega
        have htl : (l.drop (k + 1)).take (l.length - (k + 1)) = l.drop (k + 1) := List.take_of_length_le (by simp)
        have hW2 : Hid (Below w.heap.size w wr.drew) := below_next HW.out (Below.refl _ _).drew
        clear HC HW
        go_wp2_with fail
        go_region
        go_wp2
        go_ret3
        rw [HE.out]
        refine ⟨?_, hW2.out⟩
        first | rfl | simp
      · have HC2 : Hid (glueB (l.take (k + 1)) (cutB c (l.drop (k + 1))) = cutB c l) := by rw [← cutB_step hlt hc]; exact HC.out
        have hcq : ([l[k]] == [c]) = false := by simpa using hc
        clear HC
        go_wp2
        go_roundw
        case rel => exact ⟨k + 1, by go_num, by omega, HC2, HW⟩
        case measure => simp [intOf]; omega
    · have hkl : k = l.length := by omega
      subst hkl
      have hk1 : ¬ (l.length : Int) + 1 ≤ (l.length : Int) := by omega
      have HE : Hid (cutB c l = (l, [], false)) := by rw [← cutB_end (c := c) l]; exact HC.out.symm
      clear HC
      go_wp2
      go_ret3
      rw [HE.out]
      exact ⟨rfl, HW.out⟩

/-! ### words, in plain terms -/
def headB (x : UInt8) : List (List UInt8) → List (List UInt8)
  | [] => [[x]]
  | h :: t => (x :: h) :: t
def splitB (c : UInt8) : List UInt8 → List (List UInt8)
  | [] => [[]]
  | x :: l => if x = c then [] :: splitB c l else headB x (splitB c l)
theorem splitB_cut (c : UInt8) : ∀ l : List UInt8, splitB c l = (cutB c l).1 :: (if (cutB c l).2.2 then splitB c (cutB c l).2.1 else [])
  | [] => rfl
  | x :: l => by
    have e1 : splitB c (x :: l) = if x = c then [] :: splitB c l else headB x (splitB c l) := rfl
    have e2 : cutB c (x :: l) = if x = c then ([], l, true) else (x :: (cutB c l).1, (cutB c l).2.1, (cutB c l).2.2) := rfl
    rw [e1, e2]
    by_cases h : x = c
    · rw [if_pos h, if_pos h]
      rfl
    · rw [if_neg h, if_neg h, splitB_cut c l]
      rfl
theorem cutB_len (c : UInt8) : ∀ l : List UInt8, (cutB c l).2.2 = true → (cutB c l).2.1.length < l.length ∧ (cutB c l).1.length ≤ l.length
  | [], h => by simp [cutB] at h
  | x :: l, h => by
    unfold cutB at h ⊢
    by_cases hx : x = c
    · rw [if_pos hx]
      simp
    · rw [if_neg hx] at h ⊢
      have := cutB_len c l h
      simp
      omega
theorem splitB_ne (c : UInt8) (l : List UInt8) : splitB c l ≠ [] := by
  rw [splitB_cut]
  exact List.cons_ne_nil _ _
theorem splitB_len (c : UInt8) : ∀ l : List UInt8, (splitB c l).length ≤ l.length + 1
  | [] => by simp [splitB]
  | x :: l => by
    have h := splitB_len c l
    unfold splitB
    split
    · simp; omega
    · cases hs : splitB c l with
      | nil => simp [headB]
      | cons a b => rw [hs] at h; simp [headB] at h ⊢; omega
def svals (xs : List (List UInt8)) : List Value := xs.map fun x => Value.string ⟨x.toArray⟩
theorem svals_app (xs : List (List UInt8)) (x : List UInt8) : svals (xs ++ [x]) = svals xs ++ [.string ⟨x.toArray⟩] := by simp [svals]
def SpRes (w : World) (xs : List (List UInt8)) (e : Ending) (w' : World) : Prop := ∃ (a : Option Addr) (c : Nat), e = .returned (.slice a xs.length c) ∧ w'.ownsRow w.heap.size 9 1 (.slice a xs.length c) xs.length (svals xs) ∧ Below w.heap.size w w'
theorem infoSS : (Tryd.prog.info? 9).map (fun i => (i.zero, i.size, i.bytes)) = some (some (.string ⟨#[]⟩), 1, 16) := by kernel_rfl
theorem addr_addS (b o j : Nat) : (⟨b, o, none⟩ : Addr).add j = ⟨b, o + j, none⟩ := by
  by_cases h : j = 0 <;> simp [Addr.add, h]
def strLen : Value → Nat
  | .string b => b.size
  | _ => 0

set_option maxRecDepth 100000 in
set_option maxHeartbeats 8000000 in
theorem parts_c (l : List UInt8) (w : World) (hl : l.length ≤ 1000000) :
    Calls Tryd.prog 24 #[.string ⟨l.toArray⟩] w (SpRes w (splitB 32 l)) := by
  obtain ⟨i0, hi, hz0, hz1, hz2⟩ := info_parts infoSS
  have HB0 : Hid (Below w.heap.size w (w.alloc (.cells #[] 9))) := below_alloc1 _ _
  have HO0 : Hid ((w.alloc (.cells #[] 9)).ownsRow w.heap.size 9 1 (.slice (some ⟨w.heap.size, 0, none⟩) 0 0) 0 (svals [])) := World.ownsRow_lit (base := w.heap.size) (e := 9) (size := 1) w #[] 0 (Nat.le_refl _) (Nat.zero_le _) rfl
  have HLL := Lib.hid hl
  go_enter Tryd.func24, Tryd.ntmps24
  go_upto_region 2 with fail
  go_loopw [0, 3] (fun s o wr => ∃ (r : List UInt8) (out : List (List UInt8)) (g c : Nat), s = .string ⟨r.toArray⟩ ∧ o = .slice (some ⟨g, 0, none⟩) out.length c ∧ Hid (r.length ≤ 1000000) ∧ Hid (out ++ splitB 32 r = splitB 32 l) ∧ Hid (wr.ownsRow w.heap.size 9 1 (.slice (some ⟨g, 0, none⟩) out.length c) out.length (svals out)) ∧ Hid (Below w.heap.size w wr)) (fun s _ _ => strLen s)
  case atStart => exact ⟨l, [], _, _, rfl, rfl, HLL, Lib.hid rfl, HO0, HB0⟩
  case round =>
    clear HO0 HB0
    obtain ⟨r, out, g, c, rfl, rfl, HR, HE, HO, HB⟩ := hrel
    have HC := Lib.hid (cut_c 32 r wr HR.out)
    obtain ⟨x, hx⟩ : ∃ x, x = (cutB 32 r).1 := ⟨_, rfl⟩
    obtain ⟨y, hy⟩ : ∃ y, y = (cutB 32 r).2.1 := ⟨_, rfl⟩
    obtain ⟨f, hf⟩ : ∃ f, f = (cutB 32 r).2.2 := ⟨_, rfl⟩
    have hS := splitB_cut 32 r
    have hlen := cutB_len 32 r
    have hsl := splitB_len 32 l
    rw [← HE.out] at hsl
    have hne := splitB_ne 32 r
    have HLo : Hid (out.length ≤ 1000001) := by
      unfold Hid
      have := List.length_pos_iff.2 hne
      have := HLL.out
      simp only [List.length_append] at hsl
      omega
    rw [← hx, ← hy, ← hf] at HC
    rw [← hx, ← hy, ← hf] at hS
    rw [← hy, ← hf, ← hx] at hlen
    have HS := Lib.hid hS
    have HLn := Lib.hid hlen
    clear hx hy hf hS hlen hsl hne
    go_wp2_with fail
    refine HC.out.mono ?_
    rintro e w1 ⟨rfl, hb1⟩
    have HBX2 : Hid (BoxP w1.heap.size [.string ⟨x.toArray⟩] (w1.alloc (.cells #[.string ⟨x.toArray⟩] 9))) := ((Fr.start w1).alloc #[.string ⟨x.toArray⟩] 9).at 0 rfl
    have HOW : Hid ((w1.alloc (.cells #[.string ⟨x.toArray⟩] 9)).ownsRow w.heap.size 9 1 (.slice (some ⟨g, 0, none⟩) out.length c) out.length (svals out)) := own_below HO.out (below_next hb1 (below_alloc1 _ _)) (Nat.le_refl _)
    have HBW : Hid (Below w.heap.size w (w1.alloc (.cells #[.string ⟨x.toArray⟩] 9))) := below_next (below_next HB.out hb1) (below_alloc1 _ _)
    have hlen1 : (svals out).length = out.length * 1 := by simp [svals]
    clear HO HB hb1 HC hlen1
    go_wp2_with (at_builtin; refine wpList_append_own2 _ rfl _ _ 54 rfl w.heap.size 9 i0 (.string ⟨#[]⟩) 1 16 Tryd.underlying54 hi hz0 hz1 hz2 rfl (by decide) (.slice (some ⟨g, 0, none⟩) out.length c) out.length (svals out) rfl HOW.out ⟨w1.heap.size, 0, none⟩ 1 1 [.string ⟨x.toArray⟩] rfl rfl (fun j u hu => by rw [addr_addS, Nat.zero_add]; exact HBX2.out j u hu) (by intro u hu; simp at hu; subst hu; rfl) (by have := HLo.out; unfold maxLen; omega) (by have := HLo.out; omega) (HBW.out.size) ?_)
    intro ad6 c6 w6 ho6 hg6 hn6
    obtain ⟨g6, rfl, _, _⟩ := own_lt_n ho6 (by omega)
    have hl6 : out.length + 1 = (out ++ [x]).length := by simp
    have HO6 : Hid (w6.ownsRow w.heap.size 9 1 (.slice (some ⟨g6, 0, none⟩) (out ++ [x]).length c6) (out ++ [x]).length (svals (out ++ [x]))) := by
      unfold Hid
      rw [svals_app, ← hl6]
      exact ho6
    have HB6 := Lib.hid (below_grown HBW.out hg6 (fun q hq => (HOW.out.lt q hq).1))
    have HL6 := Lib.hid hl6
    clear ho6 hg6 hn6 HOW HBX2 HBW hl6
    cases f with
    | true =>
      have hln := HLn.out rfl
      have HE2 : Hid ((out ++ [x]) ++ splitB 32 y = splitB 32 l) := by
        unfold Hid
        rw [← HE.out, HS.out, if_pos rfl, List.append_assoc]
        rfl
      have HR2 : Hid (y.length ≤ 1000000) := by have := HR.out; unfold Hid; omega
      clear HE HS HR HLn
      go_wp2
      go_roundw
      case rel => exact ⟨y, out ++ [x], g6, c6, rfl, by rw [← HL6.out], HR2, HE2, HO6, HB6⟩
      case measure => simp [strLen, ByteArray.size]; omega
    | false =>
      have HE2 : Hid (splitB 32 l = out ++ [x]) := by
        unfold Hid
        rw [← HE.out, HS.out, if_neg (by simp)]
      clear HE HS HR HLn
      go_wp2
      go_ret
      rw [HE2.out]
      exact ⟨some ⟨g6, 0, none⟩, c6, by rw [← HL6.out]; rfl, HO6.out, HB6.out⟩

end Go.Proofs.YtenjffoboiohnaaDoor
