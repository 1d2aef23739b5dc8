/- Ints: the contracts of the laws' own functions on slices of numbers: equal, marked, held, copied, counted. Each holds for every argument, under the premises that it states. -/
import Derived.Test.YtbjgigdkbjabaaaRules
import Derived.BigQuiet
import Derived.Deep.QuietTactic
import Derived.Laws.MakeOwn
import Derived.OwnWalk
namespace Go.Proofs.Ytbjgigdkbjabaaa
set_option linter.unusedSimpArgs false
set_option linter.unusedVariables false
set_option linter.unnecessarySimpa false
open Go.RowKit Go.ChangeShapes Go.WideShapes Go.ChangeAt Go.Joins

theorem list_eq_of {α : Type} {xs ys : List α} (hl : xs.length = ys.length) (h : ∀ j (h1 : j < xs.length) (h2 : j < ys.length), xs[j] = ys[j]) : xs = ys :=
  List.ext_getElem hl (fun j h1 h2 => h j h1 h2)

theorem infoI : (Try.prog.info? 2).map (fun i => (i.zero, i.size, i.bytes)) = some (some (.int .i64 0), 1, 8) := by kernel_rfl

set_option maxHeartbeats 1000000 in
theorem eqInt64S_c (a b : Option Addr) (c d : Nat) (xs ys : List Int) (w : World) (ha : Ints w a xs) (hb : Ints w b ys) (hm : xs.length ≤ maxLen) (hm' : ys.length ≤ maxLen) :
    Calls Try.prog 63 #[.slice a xs.length c, .slice b ys.length d] w fun e w' => e = .returned (.bool (decide (xs = ys))) ∧ ∃ m, w' = w.drewN m := by
  unfold maxLen at hm hm'
  by_cases hl : xs.length = ys.length
  · have HL := Lib.hid hl
    have hT : ((xs.length : Int) != ys.length) = false := by simp [hl]
    clear hl
    go_enter Try.func63, Try.ntmps63
    go_wp2
    go_loopw [5] (fun i wr => ∃ k : Nat, k ≤ xs.length ∧ i = .int .i64 k ∧ Hid (∀ j (h : j < k) (h1 : j < xs.length) (h2 : j < ys.length), xs[j] = ys[j]) ∧ ∃ m, wr = w.drewN m) (fun i _ => xs.length - (intOf i).toNat)
    case atStart => exact ⟨0, Nat.zero_le _, rfl, fun j h => absurd h (by omega), 0, rfl⟩
    case round =>
      obtain ⟨k, hk, rfl, hne, m, rfl⟩ := hrel
      by_cases hlt : k < xs.length
      · have hlt' : k < ys.length := by have := HL.out; omega
        obtain ⟨b1, o1, rfl, hb1, hc1⟩ := Ints.at ha hlt
        obtain ⟨b2, o2, rfl, hb2, hc2⟩ := Ints.at hb hlt'
        go_wp2
        go_quiet (fail)
        go_wp2
        · have hne' : (xs[k] != ys[k]) = true := by assumption
          go_ret
          refine ⟨ret_bool (decide_eq_false (fun e => ?_)).symm, by first | exact ⟨_, rfl⟩ | exact ⟨_, World.drewN_drewN ..⟩⟩
          subst e
          simp at hne'
        · have he : (xs[k] != ys[k]) = false := by assumption
          go_roundw
          case rel =>
            refine ⟨k + 1, by omega, by go_num, fun j h h1 h2 => ?_, _, rfl⟩
            by_cases e : j = k
            · subst e; simpa using he
            · exact hne.out j (by omega) h1 h2
          case measure => simp [intOf]; omega
      · go_wp2
        go_ret
        refine ⟨ret_bool (decide_eq_true (list_eq_of HL.out (fun j h1 h2 => hne.out j (by omega) h1 h2))).symm, _, rfl⟩
  · have hT : ((xs.length : Int) != ys.length) = true := by rw [bne_iff_ne]; omega
    have hF : decide (xs = ys) = false := decide_eq_false (fun e => hl (by rw [e]))
    have HF := Lib.hid hF
    clear hF hl
    go_enter Try.func63, Try.ntmps63
    go_wp2
    go_ret
    exact ⟨by rw [HF.out]; rfl, 0, rfl⟩
/-- n numbers from k on -/
def marks (k : Int) (n : Nat) : List Int := (List.range n).map fun (j : Nat) => k + (j : Int)
theorem marks_length (k : Int) (n : Nat) : (marks k n).length = n := by simp [marks]
theorem marks_get (k : Int) {n j : Nat} (h : j < (marks k n).length) : (marks k n)[j] = k + j := by simp [marks]
theorem marks_set (k : Int) (xs : List Int) {j : Nat} (h : j < xs.length) : ((marks k j ++ xs.drop j).map (Value.int .i64)).set j (.int .i64 (k + j)) = (marks k (j + 1) ++ xs.drop (j + 1)).map (Value.int .i64) := by
  apply List.ext_getElem
  · simp [marks]; omega
  · intro m h1 h2
    rcases Nat.lt_trichotomy m j with hm | hm | hm
    · simp [List.getElem_set, marks, List.getElem_append, hm, show ¬ j = m by omega, show m < j + 1 by omega]
    · subst hm
      simp [List.getElem_set, marks, List.getElem_append]
    · have h3 : ¬ m < j := by omega
      have h4 : ¬ m < j + 1 := by omega
      have h5 : j + (m - j) = m := by omega
      have h6 : j + 1 + (m - (j + 1)) = m := by omega
      simp [List.getElem_set, marks, List.getElem_append, show ¬ j = m by omega, h3, h4, h5, h6]
      intro h; omega

def szI (left : Int) (n : Nat) : Int := if left < n then -1 else left - n
theorem szInt64S_c (a : Option Addr) (n c : Nat) (left : Int) (w : World) (hl : 0 ≤ left) (hl' : left ≤ 1048576) (hm : n ≤ maxLen) :
    Calls Try.prog 54 #[.slice a n c, .int .i64 left] w fun e w' => e = .returned (.int .i64 (szI left n)) ∧ w = w' := by
  unfold maxLen at hm
  by_cases h : left < n
  · have hs : szI left n = -1 := by simp [szI, h]
    have HS := Lib.hid hs
    clear hs
    go_enter Try.func54, Try.ntmps54
    go_wp2
    go_ret
    exact ⟨by rw [HS.out]; rfl, rfl⟩
  · have hs : szI left n = left - n := by simp [szI, h]
    have HS := Lib.hid hs
    clear hs
    go_enter Try.func54, Try.ntmps54
    go_wp2
    go_ret
    exact ⟨by rw [HS.out]; rfl, rfl⟩

set_option maxHeartbeats 1000000 in
theorem heldInt64S_c (a : Option Addr) (n c : Nat) (k : Int) (w : World) (h : Ints w a (marks k n)) (hk : 0 ≤ k) (hk' : k + n ≤ 1099511627776) :
    Calls Try.prog 66 #[.slice a n c, .int .i64 k] w fun e w' => e = .returned (.int .i64 (k + n)) ∧ w = w' := by
  go_enter Try.func66, Try.ntmps66
  go_wp2
  go_loop [1, 5] (fun q i => ∃ j : Nat, j ≤ n ∧ i = .int .i64 j ∧ q = .int .i64 (k + j)) (fun _ i => n - (intOf i).toNat)
  case atStart => exact ⟨0, Nat.zero_le _, rfl, by simp⟩
  case round =>
    obtain ⟨j, hj, rfl, rfl⟩ := hrel
    by_cases hlt : j < n
    · have hlt' : j < (marks k n).length := by rw [marks_length]; exact hlt
      obtain ⟨b1, o1, rfl, hb1, hc1⟩ := Ints.at h hlt'
      rw [marks_get] at hc1
      go_wp2
      go_round
      case rel => exact ⟨j + 1, by omega, by go_num, by go_num⟩
      case measure => simp [intOf]; omega
    · obtain rfl : j = n := by omega
      go_wp2
      go_ret
      exact ⟨rfl, rfl⟩

set_option maxHeartbeats 1000000 in
theorem markInt64S_c (base : Nat) (a : Option Addr) (n c : Nat) (xs : List Int) (k : Int) (w : World) (h : w.ownsRow base 2 1 (.slice a n c) n (xs.map (Value.int .i64))) (hk : 0 ≤ k) (hk' : k + n ≤ 1099511627776) :
    Calls Try.prog 65 #[.slice a n c, .int .i64 k] w fun e w' => e = .returned (.int .i64 (k + n)) ∧ w'.ownsRow base 2 1 (.slice a n c) n ((marks k n).map (Value.int .i64)) ∧ w.grownBy w' (Value.slice a n c).ownBlock := by
  have hx : xs.length = n := by have := h.1; simpa using this
  have HX := Lib.hid hx
  clear hx
  go_enter Try.func65, Try.ntmps65
  go_wp2
  go_loopw [1, 5] (fun q i wr => ∃ j : Nat, j ≤ n ∧ i = .int .i64 j ∧ q = .int .i64 (k + j) ∧ wr.ownsRow base 2 1 (.slice a n c) n ((marks k j ++ xs.drop j).map (Value.int .i64)) ∧ w.grownBy wr (Value.slice a n c).ownBlock) (fun _ i _ => n - (intOf i).toNat)
  case atStart => exact ⟨0, Nat.zero_le _, rfl, by simp, by simpa [marks] using h, World.grownBy.refl _ _⟩
  case round =>
    obtain ⟨j, hj, rfl, rfl, hown, hg⟩ := hrel
    by_cases hlt : j < n
    · obtain ⟨g, rfl, hg1, hg2⟩ := own_lt_n hown (by omega)
      have hcell := hown.cellAt j (by omega)
      have hfro := hown.frozenAt j
      obtain ⟨v, hv⟩ : ∃ v, ((marks k j ++ xs.drop j).map (Value.int .i64))[j]? = some v := by
        have := HX.out
        exact ⟨_, List.getElem?_eq_getElem (by simp [marks]; omega)⟩
      rw [hv] at hcell
      clear hv
      obtain ⟨hst, hgr⟩ := hown.stored j (.int .i64 (k + j))
      rw [marks_set k xs (by have := HX.out; omega)] at hst
      have HST := Lib.hid hst
      have HGR := Lib.hid hgr
      clear hst hgr hown
      go_wp2
      go_roundw
      case rel => exact ⟨j + 1, by omega, by go_num, by go_num, HST.out, grown_trans hg HGR.out⟩
      case measure => simp [intOf]; omega
    · obtain rfl : j = n := by omega
      go_wp2
      go_ret
      refine ⟨rfl, ?_, hg⟩
      have := HX.out
      rw [List.drop_of_length_le (by omega), List.append_nil] at hown
      exact hown

set_option maxHeartbeats 1000000 in
theorem toInt64S_c (a : Option Addr) (c : Nat) (xs : List Int) (w : World) (h : Ints w a xs) (hn : xs.length ≤ 1048576) :
    Calls Try.prog 58 #[.slice a xs.length c] w fun e w' => e = .returned (.slice (some ⟨w.heap.size, 0, none⟩) xs.length xs.length) ∧
      w'.ownsRow w.heap.size 2 1 (.slice (some ⟨w.heap.size, 0, none⟩) xs.length xs.length) xs.length (xs.map (Value.int .i64)) ∧ Below w.heap.size w w' := by
  obtain ⟨i0, hi, hz0, hz1, hz2⟩ := info_parts infoI
  go_enter Try.func58, Try.ntmps58
  go_wp2_with (at_make; refine wpList_make_full _ rfl _ _ 24 rfl w.heap.size 2 i0 (.int .i64 0) 1 Try.underlying24 hi hz0 hz1 _ _ _ _ xs.length rfl rfl rfl rfl ?c1 ?c2 ?c3 ?_)
  case c1 => rw [hz2]; omega
  case c2 => unfold maxLen; omega
  case c3 => exact Nat.le_refl _
  intro w1 hown hgr
  have hb1 : Below w.heap.size w w1 := (Below.refl _ _).grown hgr (Nat.le_refl _) (fun k h => by cases h)
  clear hz0 hz1 hz2 hgr
  go_wp2
  go_loopw [4] (fun i wr => ∃ (j : Nat) (vs : List Value), j ≤ xs.length ∧ i = .int .i64 j ∧ Hid (∀ m (h : m < j) (h' : m < xs.length), vs[m]? = some (.int .i64 xs[m])) ∧ wr.ownsRow w.heap.size 2 1 (.slice (some ⟨w.heap.size, 0, none⟩) xs.length xs.length) xs.length vs ∧ Below w.heap.size w wr) (fun i _ => xs.length - (intOf i).toNat)
  case atStart => exact ⟨0, _, Nat.zero_le _, rfl, fun m h => absurd h (by omega), hown, hb1⟩
  case round =>
    clear hown hb1
    obtain ⟨j, vs, hj, rfl, hvs, hown, hbw⟩ := hrel
    by_cases hlt : j < xs.length
    · obtain ⟨b1, o1, rfl, hb1, hc1⟩ := Ints.at (h.below hbw (Nat.le_refl _)) hlt
      have hvl : vs.length = xs.length := by have := hown.1; simpa using this
      have hcell := hown.cellAt j (by omega)
      have hfro := hown.frozenAt j
      obtain ⟨v0, hv0⟩ : ∃ v0, vs[j]? = some v0 := ⟨_, List.getElem?_eq_getElem (by omega)⟩
      rw [hv0] at hcell
      clear hv0
      obtain ⟨hst, hgr⟩ := hown.stored j (.int .i64 xs[j])
      have HST := Lib.hid hst
      have HGR := Lib.hid hgr
      have HVL := Lib.hid hvl
      clear hst hgr hown hvl
      go_wp2
      go_roundw
      case rel =>
        refine ⟨j + 1, _, by omega, by go_num, fun m hm hm' => ?_, HST.out, hbw.grown HGR.out hbw.size (fun k h => by cases h; exact Nat.le_refl _)⟩
        rw [List.getElem?_set]
        split
        · rename_i e; subst e
          rw [if_pos (by have := HVL.out; omega)]
        · exact hvs.out m (by omega) hm'
      case measure => simp [intOf]; omega
    · obtain rfl : j = xs.length := by omega
      go_wp2
      go_ret
      have hvl : vs.length = xs.length := by have := hown.1; simpa using this
      have e : vs = xs.map (Value.int .i64) := by
        apply List.ext_getElem?
        intro m
        by_cases hm : m < xs.length
        · rw [hvs.out m hm hm]; simp [hm]
        · rw [List.getElem?_eq_none (by omega), List.getElem?_eq_none (by simp; omega)]
      rw [e] at hown
      exact ⟨rfl, hown, hbw⟩

end Go.Proofs.Ytbjgigdkbjabaaa
