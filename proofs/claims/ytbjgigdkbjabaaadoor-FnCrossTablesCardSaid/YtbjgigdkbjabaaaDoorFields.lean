/- Fields: the contracts of the functions that name, read and set the fields of rules. Each holds for every argument, under the premises that it states. -/
import Derived.Test.YtbjgigdkbjabaaaDoorRules
import Derived.StillTailTactics
import Derived.BigQuiet
import Derived.Deep.QuietTactic
import Derived.Deep.RegionWith
namespace Go.Proofs.YtbjgigdkbjabaaaDoor
set_option linter.unusedSimpArgs false
set_option linter.unusedVariables false
set_option linter.unnecessarySimpa false
open Go.RowKit Go.ChangeShapes Go.WideShapes Go.ChangeAt Go.Joins

@[reducible] def Strs (w : World) (a : Option Addr) (ss : List ByteArray) : Prop := Row w a (ss.map Value.string)
theorem Strs.at {w : World} {a : Option Addr} {xs : List ByteArray} (h : Strs w a xs) {k : Nat} (hk : k < xs.length) :
    ∃ b off, a = some ⟨b, off, none⟩ ∧ b < w.heap.size ∧ w.cell? ⟨b, off + k, none⟩ = some (.string xs[k]) := by
  obtain ⟨b, off, ha, hc⟩ := h k (.string xs[k]) (by simp [hk])
  exact ⟨b, off, ha, World.block_lt_of_cell? w _ hc, hc⟩

/-- the place of the first equal one, -1 if there is none -/
def idxOf (ss : List ByteArray) (s : ByteArray) : Int :=
  if ss.findIdx (fun x => s.toList == x.toList) < ss.length then (ss.findIdx (fun x => s.toList == x.toList) : Nat) else -1
theorem idxOf_at {ss : List ByteArray} {s : ByteArray} {k : Nat} (hk : k < ss.length) (hne : ∀ j (h : j < k), (ss[j].toList == s.toList) = false) (he : (ss[k].toList == s.toList) = true) : idxOf ss s = k := by
  have : ss.findIdx (fun x => s.toList == x.toList) = k := (List.findIdx_eq hk).2 ⟨by rw [BEq.comm]; exact he, fun j hj => by rw [BEq.comm]; exact hne j hj⟩
  simp [idxOf, this, hk]
theorem idxOf_none {ss : List ByteArray} {s : ByteArray} (hne : ∀ j (h : j < ss.length), (ss[j].toList == s.toList) = false) : idxOf ss s = -1 := by
  have : ss.findIdx (fun x => s.toList == x.toList) = ss.length := List.findIdx_eq_length.2 (fun x hx => by
    obtain ⟨j, hj, rfl⟩ := List.getElem_of_mem hx
    rw [BEq.comm]; exact hne j hj)
  simp [idxOf, this]

set_option maxHeartbeats 1000000 in
theorem l03Index_c (a : Option Addr) (c : Nat) (ss : List ByteArray) (s : ByteArray) (w : World) (h : Strs w a ss) (hm : ss.length ≤ maxLen) :
    Calls Tryd.prog 80 #[.slice a ss.length c, .string s] w fun e w' => e = .returned (.int .i64 (idxOf ss s)) ∧ w = w' := by
  unfold maxLen at hm
  go_enter Tryd.func80, Tryd.ntmps80
  go_wp2
  go_loop [5] (fun i => ∃ k : Nat, k ≤ ss.length ∧ i = .int .i64 k ∧ ∀ j (h : j < k) (h' : j < ss.length), (ss[j].toList == s.toList) = false) (fun i => ss.length - (intOf i).toNat)
  case atStart => exact ⟨0, Nat.zero_le _, rfl, fun j h => absurd h (by omega)⟩
  case round =>
    obtain ⟨k, hk, rfl, hne⟩ := hrel
    have HN := Lib.hid hne
    clear hne
    by_cases hlt : k < ss.length
    · obtain ⟨b, off, rfl, hb, hc⟩ := h.at hlt
      go_wp2
      · have he : (ss[k].toList == s.toList) = true := by assumption
        go_ret
        exact ⟨ret_int (idxOf_at hlt (fun j hj => HN.out j hj (by omega)) he).symm, rfl⟩
      · have he : (ss[k].toList == s.toList) = false := by assumption
        go_round
        case rel =>
          refine ⟨k + 1, by omega, by go_num, fun j hj h' => ?_⟩
          by_cases e : j = k
          · subst e; exact he
          · exact HN.out j (by omega) h'
        case measure => simp [intOf]; omega
    · go_wp2
      go_ret
      exact ⟨ret_int (idxOf_none (fun j hj => HN.out j (by omega) hj)).symm, rfl⟩

/-- the names of the fields, in their order -/
def fieldNames : List ByteArray := [⟨#[112, 105, 116, 115]⟩, ⟨#[115, 101, 101, 100, 115]⟩, ⟨#[115, 116, 111, 114, 101, 115]⟩, ⟨#[115, 107, 105, 112]⟩, ⟨#[114, 101, 108, 97, 121]⟩, ⟨#[102, 101, 101, 100]⟩, ⟨#[97, 103, 97, 105, 110]⟩, ⟨#[99, 97, 112, 116, 117, 114, 101]⟩, ⟨#[115, 108, 97, 109]⟩]

set_option maxHeartbeats 1000000 in
theorem sFieldNames_c (w : World) :
    Calls Tryd.prog 53 #[] w fun e w' => e = .returned (.slice (some ⟨w.heap.size, 0, none⟩) 9 9) ∧ w' = w.alloc (.cells (fieldNames.map Value.string).toArray 9) := by
  go_enter Tryd.func53, Tryd.ntmps53
  go_wp2
  go_ret
  exact ⟨rfl, rfl⟩
def bitI (b : Bool) : Int := if b then 1 else 0
theorem l03Bit_c (b : Bool) (w : World) :
    Calls Tryd.prog 81 #[.bool b] w fun e w' => e = .returned (.int .i64 (bitI b)) ∧ w = w' := by
  cases b
  all_goals
    go_enter Tryd.func81, Tryd.ntmps81
    go_wp2
    go_ret
    exact ⟨rfl, rfl⟩
def R.list (r : R) : List Int := [r.pits, r.seeds, bitI r.stores, bitI r.skip, bitI r.relay, bitI r.feed, bitI r.again, r.capture, r.slam]
set_option maxRecDepth 100000 in
set_option maxHeartbeats 2000000 in
theorem l03Values_c (b o : Nat) (r : R) (w : World) (h : R.At w b o r) :
    Calls Tryd.prog 57 #[.pointer (some ⟨b, o, none⟩)] w fun e w' => ∃ a c, e = .returned (.slice a 9 c) ∧ OwnI w' w.heap.size a c r.list ∧ Below w.heap.size w w' := by
  obtain ⟨c0, c1, c2, c3, c4, c5, c6, c7, c8⟩ := h
  go_enter Tryd.func57, Tryd.ntmps57
  go_wp2
  refine wp_region_still_tail 41 (by kernel_rfl) (by kernel_rfl) ?_
  simp only [List.take_succ_cons, List.take_zero, List.drop_succ_cons, List.drop_zero]
  repeat (first | still_step | still_call (Calls.mono (l03Bit_c _ _) (fun e w' h => ⟨h.1, h.2.symm⟩)))
  try refine wpStill_nil ?_
  change wpList _ _ _ _ _ w.drew
  generalize hw2 : w.drew = w2
  go_wp2
  go_ret
  subst hw2
  exact ⟨_, _, rfl, World.ownsRow_lit (base := w.heap.size) (e := 2) (size := 1) w.drew _ 9 (Nat.le_refl _) (by unfold maxLen; omega) rfl, (Below.refl _ _).drew.alloc (Nat.le_refl _) _⟩

/-- a field's value and the code; the zero and 3 where there is none of the name -/
def fieldV (r : R) (s : ByteArray) : Int := if idxOf fieldNames s < 0 then 0 else r.list.getD (idxOf fieldNames s).toNat 0
def fieldOk (s : ByteArray) : Bool := decide (0 ≤ idxOf fieldNames s)
def FieldOfP (r : R) (s : ByteArray) : Int × Int := if r.ok = false then (0, 1) else if fieldOk s = false then (0, 3) else (fieldV r s, 0)
theorem fieldAt0 (r : R) {s : ByteArray} (h : (s.toList == [112, 105, 116, 115]) = true) : fieldV r s = r.pits ∧ fieldOk s = true ∧ idxOf fieldNames s = 0 := by
  have h' : s.toList = [112, 105, 116, 115] := by simpa using h
  have hi : idxOf fieldNames s = 0 := by simp [idxOf, fieldNames, h', List.findIdx_cons]
  exact ⟨by simp [fieldV, hi, R.list], by simp [fieldOk, hi], hi⟩
theorem fieldAt1 (r : R) {s : ByteArray} (h : (s.toList == [115, 101, 101, 100, 115]) = true) : fieldV r s = r.seeds ∧ fieldOk s = true ∧ idxOf fieldNames s = 1 := by
  have h' : s.toList = [115, 101, 101, 100, 115] := by simpa using h
  have hi : idxOf fieldNames s = 1 := by simp [idxOf, fieldNames, h', List.findIdx_cons]
  exact ⟨by simp [fieldV, hi, R.list], by simp [fieldOk, hi], hi⟩
theorem fieldAt2 (r : R) {s : ByteArray} (h : (s.toList == [115, 116, 111, 114, 101, 115]) = true) : fieldV r s = bitI r.stores ∧ fieldOk s = true ∧ idxOf fieldNames s = 2 := by
  have h' : s.toList = [115, 116, 111, 114, 101, 115] := by simpa using h
  have hi : idxOf fieldNames s = 2 := by simp [idxOf, fieldNames, h', List.findIdx_cons]
  exact ⟨by simp [fieldV, hi, R.list], by simp [fieldOk, hi], hi⟩
theorem fieldAt3 (r : R) {s : ByteArray} (h : (s.toList == [115, 107, 105, 112]) = true) : fieldV r s = bitI r.skip ∧ fieldOk s = true ∧ idxOf fieldNames s = 3 := by
  have h' : s.toList = [115, 107, 105, 112] := by simpa using h
  have hi : idxOf fieldNames s = 3 := by simp [idxOf, fieldNames, h', List.findIdx_cons]
  exact ⟨by simp [fieldV, hi, R.list], by simp [fieldOk, hi], hi⟩
theorem fieldAt4 (r : R) {s : ByteArray} (h : (s.toList == [114, 101, 108, 97, 121]) = true) : fieldV r s = bitI r.relay ∧ fieldOk s = true ∧ idxOf fieldNames s = 4 := by
  have h' : s.toList = [114, 101, 108, 97, 121] := by simpa using h
  have hi : idxOf fieldNames s = 4 := by simp [idxOf, fieldNames, h', List.findIdx_cons]
  exact ⟨by simp [fieldV, hi, R.list], by simp [fieldOk, hi], hi⟩
theorem fieldAt5 (r : R) {s : ByteArray} (h : (s.toList == [102, 101, 101, 100]) = true) : fieldV r s = bitI r.feed ∧ fieldOk s = true ∧ idxOf fieldNames s = 5 := by
  have h' : s.toList = [102, 101, 101, 100] := by simpa using h
  have hi : idxOf fieldNames s = 5 := by simp [idxOf, fieldNames, h', List.findIdx_cons]
  exact ⟨by simp [fieldV, hi, R.list], by simp [fieldOk, hi], hi⟩
theorem fieldAt6 (r : R) {s : ByteArray} (h : (s.toList == [97, 103, 97, 105, 110]) = true) : fieldV r s = bitI r.again ∧ fieldOk s = true ∧ idxOf fieldNames s = 6 := by
  have h' : s.toList = [97, 103, 97, 105, 110] := by simpa using h
  have hi : idxOf fieldNames s = 6 := by simp [idxOf, fieldNames, h', List.findIdx_cons]
  exact ⟨by simp [fieldV, hi, R.list], by simp [fieldOk, hi], hi⟩
theorem fieldAt7 (r : R) {s : ByteArray} (h : (s.toList == [99, 97, 112, 116, 117, 114, 101]) = true) : fieldV r s = r.capture ∧ fieldOk s = true ∧ idxOf fieldNames s = 7 := by
  have h' : s.toList = [99, 97, 112, 116, 117, 114, 101] := by simpa using h
  have hi : idxOf fieldNames s = 7 := by simp [idxOf, fieldNames, h', List.findIdx_cons]
  exact ⟨by simp [fieldV, hi, R.list], by simp [fieldOk, hi], hi⟩
theorem fieldAt8 (r : R) {s : ByteArray} (h : (s.toList == [115, 108, 97, 109]) = true) : fieldV r s = r.slam ∧ fieldOk s = true ∧ idxOf fieldNames s = 8 := by
  have h' : s.toList = [115, 108, 97, 109] := by simpa using h
  have hi : idxOf fieldNames s = 8 := by simp [idxOf, fieldNames, h', List.findIdx_cons]
  exact ⟨by simp [fieldV, hi, R.list], by simp [fieldOk, hi], hi⟩
theorem fieldNone (r : R) {s : ByteArray} (h0 : (s.toList == [112, 105, 116, 115]) = false) (h1 : (s.toList == [115, 101, 101, 100, 115]) = false) (h2 : (s.toList == [115, 116, 111, 114, 101, 115]) = false) (h3 : (s.toList == [115, 107, 105, 112]) = false) (h4 : (s.toList == [114, 101, 108, 97, 121]) = false) (h5 : (s.toList == [102, 101, 101, 100]) = false) (h6 : (s.toList == [97, 103, 97, 105, 110]) = false) (h7 : (s.toList == [99, 97, 112, 116, 117, 114, 101]) = false) (h8 : (s.toList == [115, 108, 97, 109]) = false) : fieldV r s = 0 ∧ fieldOk s = false ∧ idxOf fieldNames s = -1 := by
  have hi : idxOf fieldNames s = -1 := by simp [idxOf, fieldNames, h0, h1, h2, h3, h4, h5, h6, h7, h8, List.findIdx_cons]
  exact ⟨by simp [fieldV, hi], by simp [fieldOk, hi], hi⟩
theorem idxOf_lt (ss : List ByteArray) (s : ByteArray) : idxOf ss s < ss.length ∧ -1 ≤ idxOf ss s := by
  unfold idxOf; split <;> omega

end Go.Proofs.YtbjgigdkbjabaaaDoor
