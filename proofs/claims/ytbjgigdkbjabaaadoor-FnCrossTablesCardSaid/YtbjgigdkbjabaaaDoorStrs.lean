/- Strs: the laws' own functions on lists of texts: equal, marked, held. Each contract holds for every argument, under the premises that it states. -/
import Derived.Test.YtbjgigdkbjabaaaDoorFields
import Derived.Test.YtbjgigdkbjabaaaDoorFrame
import Derived.Test.YtbjgigdkbjabaaaDoorInts
import Derived.Lib.SlBytesConst
import Derived.Outline
import Derived.Deep.RegionHeld3
import Derived.Laws.IdiomStrings
namespace Go.Proofs.YtbjgigdkbjabaaaDoor
set_option linter.unusedSimpArgs false
set_option linter.unusedVariables false
set_option linter.unnecessarySimpa false
open Go.RowKit Go.ChangeShapes Go.WideShapes Go.ChangeAt Go.Joins

def strsEq (xs ys : List ByteArray) : Bool := decide (xs.map ByteArray.toList = ys.map ByteArray.toList)
theorem strsEq_self (xs : List ByteArray) : strsEq xs xs = true := by simp [strsEq]
set_option maxHeartbeats 1000000 in
theorem eqStringS_c (a b : Option Addr) (c d : Nat) (xs ys : List ByteArray) (w : World) (ha : Strs w a xs) (hb : Strs w b ys) (hm : xs.length ≤ maxLen) (hm' : ys.length ≤ maxLen) :
    Calls Tryd.prog 13 #[.slice a xs.length c, .slice b ys.length d] w fun e w' => e = .returned (.bool (strsEq xs ys)) ∧ ∃ m, w' = w.drewN m := by
  unfold maxLen at hm hm'
  by_cases hl : xs.length = ys.length
  · have HL := Lib.hid hl
    have hT : ((xs.length : Int) != ys.length) = false := by simp [hl]
    clear hl
    go_enter Tryd.func13, Tryd.ntmps13
    go_wp2
    go_loopw [5] (fun i wr => ∃ k : Nat, k ≤ xs.length ∧ i = .int .i64 k ∧ Hid (∀ j (h : j < k) (h1 : j < xs.length) (h2 : j < ys.length), xs[j].toList = ys[j].toList) ∧ ∃ m, wr = w.drewN m) (fun i _ => xs.length - (intOf i).toNat)
    case atStart => exact ⟨0, Nat.zero_le _, rfl, fun j h => absurd h (by omega), 0, rfl⟩
    case round =>
      obtain ⟨k, hk, rfl, hne, m, rfl⟩ := hrel
      by_cases hlt : k < xs.length
      · have hlt' : k < ys.length := by have := HL.out; omega
        obtain ⟨b1, o1, rfl, hb1, hc1⟩ := Strs.at ha hlt
        obtain ⟨b2, o2, rfl, hb2, hc2⟩ := Strs.at hb hlt'
        go_wp2
        go_quiet (fail)
        go_wp2
        · have hne' : (xs[k].toList != ys[k].toList) = true := by assumption
          go_ret
          refine ⟨ret_bool (decide_eq_false (fun e => ?_)).symm, by first | exact ⟨_, rfl⟩ | exact ⟨_, World.drewN_drewN ..⟩⟩
          have e2 : (xs.map ByteArray.toList)[k]? = (ys.map ByteArray.toList)[k]? := by rw [e]
          simp [hlt, hlt'] at e2
          simp [e2] at hne'
        · have he : (xs[k].toList != ys[k].toList) = false := by assumption
          go_roundw
          case rel =>
            refine ⟨k + 1, by omega, by go_num, fun j h h1 h2 => ?_, _, rfl⟩
            by_cases e : j = k
            · subst e; simpa using he
            · exact hne.out j (by omega) h1 h2
          case measure => simp [intOf]; omega
      · go_wp2
        go_ret
        refine ⟨ret_bool (decide_eq_true ?_).symm, _, rfl⟩
        exact List.ext_getElem (by simpa using HL.out) (fun j h1 h2 => by simp at h1 h2; simp; exact hne.out j (by omega) h1 h2)
  · have hT : ((xs.length : Int) != ys.length) = true := by rw [bne_iff_ne]; omega
    have hF : strsEq xs ys = false := decide_eq_false (fun e => hl (by simpa using congrArg List.length e))
    have HF := Lib.hid hF
    clear hF hl
    go_enter Tryd.func13, Tryd.ntmps13
    go_wp2
    go_ret
    exact ⟨by rw [HF.out]; rfl, 0, rfl⟩

def mtGo : Nat → Int → List UInt8 → List UInt8
  | 0, _, out => out
  | f + 1, k, out => if k ≤ 0 then out else mtGo f (k / 10) (UInt8.ofNat (48 + k % 10).toNat :: out)
/-- the text that marks a number -/
def mtext (k : Int) : ByteArray := if k ≤ 0 then ⟨#[109, 48]⟩ else ⟨(109 :: mtGo k.toNat k []).toArray⟩
set_option maxRecDepth 100000 in
set_option maxHeartbeats 1000000 in
theorem markText_c (k : Int) (w : World) (hk : 1 ≤ k) (hk' : k ≤ 1048576) :
    Calls Tryd.prog 39 #[.int .i64 k] w fun e w' => e = .returned (.string (mtext k)) ∧ Below w.heap.size w w' := by
  go_enter Tryd.func39, Tryd.ntmps39
  go_wp2
  go_loopw [0, 3] (fun n s wr => ∃ (f : Nat) (n' : Int) (out : List UInt8), 0 ≤ n' ∧ n' ≤ 1048576 ∧ Hid (n' ≤ f) ∧ n = .int .i64 n' ∧ s = .string ⟨out.toArray⟩ ∧ Hid (mtGo f n' out = mtGo k.toNat k []) ∧ Hid (out.length + n'.toNat ≤ 1048576) ∧ Below w.heap.size w wr) (fun n _ _ => (intOf n).toNat)
  case atStart => exact ⟨k.toNat, k, [], by omega, by omega, by unfold Hid; omega, rfl, rfl, rfl, by unfold Hid; simp; omega, Below.refl _ _⟩
  case round =>
    obtain ⟨f, n, out, hn0, hn1, hf, rfl, rfl, hg, hl, hb⟩ := hrel
    by_cases hz : n = 0
    · subst hz
      have hl2 : out.length ≤ 1048576 := by have := hl.out; omega
      have HE : Hid (mtGo k.toNat k [] = out) := by
        rw [← hg.out]; unfold Hid; cases f <;> simp [mtGo]
      go_wp2
      go_ret
      refine ⟨?_, hb⟩
      have h3 : mtext k = ⟨(109 :: out).toArray⟩ := by rw [mtext, if_neg (by omega), HE.out]
      rw [h3]
      show Ending.returned (.string _) = _
      congr 2
    · have hn : 1 ≤ n := by omega
      have hl2 : out.length ≤ 1048576 := by have := hl.out; omega
      clear hz
      obtain ⟨f, rfl⟩ : ∃ f', f = f' + 1 := ⟨f - 1, by have := hf.out; omega⟩
      obtain ⟨b, hb8⟩ : ∃ b : UInt8, b = UInt8.ofNat (48 + n % 10).toNat := ⟨_, rfl⟩
      have hb9 : (b.toNat : Int) = 48 + n % 10 := by rw [hb8]; simp; omega
      have hcv : (convert 40 9 (.slice (some ⟨wr.heap.size, 0, none⟩) 1 1)).run Tryd.prog (wr.alloc (.cells #[.int .u8 (48 + n % 10)] 5)) = .ok (.string ⟨[b].toArray⟩) (wr.alloc (.cells #[.int .u8 (48 + n % 10)] 5)) := by
        refine run_convert_bytes_back _ _ _ _ _ 1 [b] Tryd.underlying40 Tryd.underlying5 Tryd.underlying9 (fun j hj => ?_)
        simp at hj
        subst hj
        simp [Addr.add, hb9]
      have HG : Hid (mtGo f (n / 10) (b :: out) = mtGo k.toNat k []) := by
        rw [← hg.out, mtGo, if_neg (by omega), hb8]; rfl
      clear hb8 hb9
      go_wp2
      go_roundw
      case rel =>
        refine ⟨f, n / 10, b :: out, by omega, by omega, by unfold Hid; have := hf.out; omega, rfl, ?_, HG, by unfold Hid; have := hl.out; simp; omega, hb.alloc (by have := hb.size; omega) _⟩
        rfl
      case measure => simp [intOf]; omega

def marksS (k : Int) (n : Nat) : List Value := (List.range n).map fun (j : Nat) => Value.string (mtext (k + (j : Int)))
theorem marksS_length (k : Int) (n : Nat) : (marksS k n).length = n := by simp [marksS]
theorem marksS_get (k : Int) {n j : Nat} (h : j < n) : (marksS k n)[j]? = some (.string (mtext (k + j))) := by simp [marksS, h]
theorem marksS_set (k : Int) (vs : List Value) {j : Nat} (h : j < vs.length) : (marksS k j ++ vs.drop j).set j (.string (mtext (k + j))) = marksS k (j + 1) ++ vs.drop (j + 1) := by
  apply List.ext_getElem
  · simp [marksS]; omega
  · intro m h1 h2
    rcases Nat.lt_trichotomy m j with hm | hm | hm
    · simp [List.getElem_set, marksS, List.getElem_append, hm, show ¬ j = m by omega, show m < j + 1 by omega]
    · subst hm
      simp [List.getElem_set, marksS, List.getElem_append]
    · have h3 : ¬ m < j := by omega
      have h4 : ¬ m < j + 1 := by omega
      have h5 : j + (m - j) = m := by omega
      have h6 : j + 1 + (m - (j + 1)) = m := by omega
      simp [List.getElem_set, marksS, List.getElem_append, show ¬ j = m by omega, h3, h4, h5, h6]
      intro h; omega

set_option maxHeartbeats 1000000 in
theorem markStringS_c (lo hi : Nat) (a : Option Addr) (n c : Nat) (vs : List Value) (k : Int) (w : World) (h : OwnP lo hi 9 1 (.slice a n c) n vs w) (hh : hi ≤ w.heap.size) (hk : 1 ≤ k) (hk' : k + n ≤ 1048576) :
    Calls Tryd.prog 16 #[.slice a n c, .int .i64 k] w fun e w' => e = .returned (.int .i64 (k + n)) ∧ OwnP lo hi 9 1 (.slice a n c) n (marksS k n) w' ∧ Chg lo hi w w' := by
  have hx : vs.length = n := by have := h.1.1; simpa using this
  have HX := Lib.hid hx
  clear hx
  go_enter Tryd.func16, Tryd.ntmps16
  go_wp2
  go_loopw [1, 5] (fun q i wr => ∃ j : Nat, j ≤ n ∧ i = .int .i64 j ∧ q = .int .i64 (k + j) ∧ OwnP lo hi 9 1 (.slice a n c) n (marksS k j ++ vs.drop j) wr ∧ Chg lo hi w wr) (fun _ i _ => n - (intOf i).toNat)
  case atStart => exact ⟨0, Nat.zero_le _, rfl, by simp, by simpa [marksS] using h, Chg.refl _ _ _⟩
  case round =>
    obtain ⟨j, hj, rfl, rfl, hown, hg⟩ := hrel
    by_cases hlt : j < n
    · go_wp2_with fail
      refine (markText_c (k + j) _ (by omega) (by omega)).mono ?_
      rintro e w1 ⟨rfl, hb1⟩
      have hg1 := hg.trans (Chg.ofBelow hb1)
      have hw1 := hown.step (Nat.le_trans hh hg.size) hb1
      obtain ⟨g, rfl, hg1', hg2⟩ := own_lt_n hw1.1 (by omega)
      have hcell := hw1.1.cellAt j (by omega)
      have hfro := hw1.1.frozenAt j
      obtain ⟨v, hv⟩ : ∃ v, (marksS k j ++ vs.drop j)[j]? = some v := by
        have := HX.out
        exact ⟨_, List.getElem?_eq_getElem (by simp [marksS]; omega)⟩
      rw [hv] at hcell
      clear hv
      obtain ⟨hst, hgr⟩ := hw1.1.stored j (.string (mtext (k + j)))
      rw [marksS_set k vs (by have := HX.out; omega)] at hst
      have HST := Lib.hid hst
      have HGR := Lib.hid (hg1.trans (hw1.chg hgr))
      have HH := Lib.hid hw1.2
      clear hst hgr hown hw1
      go_wp2
      go_roundw
      case rel => exact ⟨j + 1, by omega, by go_num, by go_num, ⟨HST.out, HH.out⟩, HGR.out⟩
      case measure => simp [intOf]; omega
    · obtain rfl : j = n := by omega
      go_wp2
      go_ret
      refine ⟨rfl, ?_, hg⟩
      have := HX.out
      rw [List.drop_of_length_le (by omega), List.append_nil] at hown
      exact hown

set_option maxHeartbeats 1000000 in
theorem heldStringS_c (a : Option Addr) (n c : Nat) (k : Int) (w : World) (h : Row w a (marksS k n)) (hk : 1 ≤ k) (hk' : k + n ≤ 1048576) :
    Calls Tryd.prog 17 #[.slice a n c, .int .i64 k] w fun e w' => e = .returned (.int .i64 (k + n)) ∧ Below w.heap.size w w' := by
  go_enter Tryd.func17, Tryd.ntmps17
  go_wp2
  go_loopw [1, 5] (fun q i wr => ∃ j : Nat, j ≤ n ∧ i = .int .i64 j ∧ q = .int .i64 (k + j) ∧ Below w.heap.size w wr) (fun _ i _ => n - (intOf i).toNat)
  case atStart => exact ⟨0, Nat.zero_le _, rfl, by simp, Below.refl _ _⟩
  case round =>
    obtain ⟨j, hj, rfl, rfl, hb⟩ := hrel
    by_cases hlt : j < n
    · obtain ⟨b, o, rfl, hc⟩ := (h.below hb (Nat.le_refl _)) j _ (marksS_get k hlt)
      have hbl := World.block_lt_of_cell? wr _ hc
      simp only at hbl
      go_wp2_with fail
      go_region_held3 (fun w' => w'.cell? ⟨b, o + j, none⟩ = some (.string (mtext (k + j)))) (first | exact hcA | exact hc)
        (first | (go_at_call 39; refine (markText_c (k + j) _ (by omega) (by omega)).mono ?_; rintro e w1 ⟨rfl, hb1⟩; have hcA : w1.cell? ⟨b, o + j, none⟩ = some (.string (mtext (k + j))) := ((bcell hb1).1 b (o + j) hbl).trans hc))
      have HB := Lib.hid (below_next hb.drew hb1)
      clear hb1 hcA
      go_wp2
      go_roundw
      case rel => exact ⟨j + 1, by omega, by go_num, by go_num, HB.out⟩
      case measure => simp [intOf]; omega
    · obtain rfl : j = n := by omega
      go_wp2
      go_ret
      exact ⟨rfl, hb⟩

end Go.Proofs.YtbjgigdkbjabaaaDoor
