/- Ints: the contracts of the laws' own functions on slices of numbers: equal, marked, held, copied, counted. Each holds for every argument, under the premises that it states. -/
import Derived.Test.YtenjffoboiohnaaDoorRules
import Derived.BigQuiet
import Derived.Deep.QuietTactic
import Derived.Laws.MakeOwn
import Derived.OwnWalk
namespace Go.Proofs.YtenjffoboiohnaaDoor
set_option linter.unusedSimpArgs false
set_option linter.unusedVariables false
set_option linter.unnecessarySimpa false
open Go.RowKit Go.ChangeShapes Go.WideShapes Go.ChangeAt Go.Joins

theorem list_eq_of {α : Type} {xs ys : List α} (hl : xs.length = ys.length) (h : ∀ j (h1 : j < xs.length) (h2 : j < ys.length), xs[j] = ys[j]) : xs = ys :=
  List.ext_getElem hl (fun j h1 h2 => h j h1 h2)

theorem infoI : (Tryd.prog.info? 2).map (fun i => (i.zero, i.size, i.bytes)) = some (some (.int .i64 0), 1, 8) := by kernel_rfl

set_option maxHeartbeats 1000000 in
theorem l00Same_c (a b : Option Addr) (c d : Nat) (xs ys : List Int) (w : World) (ha : Ints w a xs) (hb : Ints w b ys) (hm : xs.length ≤ maxLen) (hm' : ys.length ≤ maxLen) :
    Calls Tryd.prog 46 #[.slice a xs.length c, .slice b ys.length d] w fun e w' => e = .returned (.bool (decide (xs = ys))) ∧ ∃ m, w' = w.drewN m := by
  unfold maxLen at hm hm'
  by_cases hl : xs.length = ys.length
  · have HL := Lib.hid hl
    have hT : ((xs.length : Int) != ys.length) = false := by simp [hl]
    clear hl
    go_enter Tryd.func46, Tryd.ntmps46
    go_wp2
    go_loopw [5] (fun i wr => ∃ k : Nat, k ≤ xs.length ∧ i = .int .i64 k ∧ Hid (∀ j (h : j < k) (h1 : j < xs.length) (h2 : j < ys.length), xs[j] = ys[j]) ∧ ∃ m, wr = w.drewN m) (fun i _ => xs.length - (intOf i).toNat)
    case atStart => exact ⟨0, Nat.zero_le _, rfl, fun j h => absurd h (by omega), 0, rfl⟩
    case round =>
      obtain ⟨k, hk, rfl, hne, m, rfl⟩ := hrel
      by_cases hlt : k < xs.length
      · have hlt' : k < ys.length := by have := HL.out; omega
        obtain ⟨b1, o1, rfl, hb1, hc1⟩ := Ints.at ha hlt
        obtain ⟨b2, o2, rfl, hb2, hc2⟩ := Ints.at hb hlt'
        go_wp2
        go_quiet (fail)
        go_wp2
        · have hne' : (xs[k] != ys[k]) = true := by assumption
          go_ret
          refine ⟨ret_bool (decide_eq_false (fun e => ?_)).symm, by first | exact ⟨_, rfl⟩ | exact ⟨_, World.drewN_drewN ..⟩⟩
          subst e
          simp at hne'
        · have he : (xs[k] != ys[k]) = false := by assumption
          go_roundw
          case rel =>
            refine ⟨k + 1, by omega, by go_num, fun j h h1 h2 => ?_, _, rfl⟩
            by_cases e : j = k
            · subst e; simpa using he
            · exact hne.out j (by omega) h1 h2
          case measure => simp [intOf]; omega
      · go_wp2
        go_ret
        refine ⟨ret_bool (decide_eq_true (list_eq_of HL.out (fun j h1 h2 => hne.out j (by omega) h1 h2))).symm, _, rfl⟩
  · have hT : ((xs.length : Int) != ys.length) = true := by rw [bne_iff_ne]; omega
    have hF : decide (xs = ys) = false := decide_eq_false (fun e => hl (by rw [e]))
    have HF := Lib.hid hF
    clear hF hl
    go_enter Tryd.func46, Tryd.ntmps46
    go_wp2
    go_ret
    exact ⟨by rw [HF.out]; rfl, 0, rfl⟩
/-- n numbers from k on -/
def marks (k : Int) (n : Nat) : List Int := (List.range n).map fun (j : Nat) => k + (j : Int)
theorem marks_length (k : Int) (n : Nat) : (marks k n).length = n := by simp [marks]
theorem marks_get (k : Int) {n j : Nat} (h : j < (marks k n).length) : (marks k n)[j] = k + j := by simp [marks]
theorem marks_set (k : Int) (xs : List Int) {j : Nat} (h : j < xs.length) : ((marks k j ++ xs.drop j).map (Value.int .i64)).set j (.int .i64 (k + j)) = (marks k (j + 1) ++ xs.drop (j + 1)).map (Value.int .i64) := by
  apply List.ext_getElem
  · simp [marks]; omega
  · intro m h1 h2
    rcases Nat.lt_trichotomy m j with hm | hm | hm
    · simp [List.getElem_set, marks, List.getElem_append, hm, show ¬ j = m by omega, show m < j + 1 by omega]
    · subst hm
      simp [List.getElem_set, marks, List.getElem_append]
    · have h3 : ¬ m < j := by omega
      have h4 : ¬ m < j + 1 := by omega
      have h5 : j + (m - j) = m := by omega
      have h6 : j + 1 + (m - (j + 1)) = m := by omega
      simp [List.getElem_set, marks, List.getElem_append, show ¬ j = m by omega, h3, h4, h5, h6]
      intro h; omega

def szI (left : Int) (n : Nat) : Int := if left < n then -1 else left - n
end Go.Proofs.YtenjffoboiohnaaDoor
