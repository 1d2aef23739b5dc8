/- Core1: positions: sums, validity; the contracts of the functions of both sides that ask whether a position is valid. Each holds for every argument, under the premises that it states. -/
import Derived.Test.YtbjgigdkbjabaaaPos
import Derived.Test.YtbjgigdkbjabaaaFrame
import Derived.Test.YtbjgigdkbjabaaaCopy
import Derived.Deep.RegionHeld3
import Derived.StillTailTactics
namespace Go.Proofs.Ytbjgigdkbjabaaa
set_option linter.unusedSimpArgs false
set_option linter.unusedVariables false
set_option linter.unnecessarySimpa false
open Go.RowKit Go.ChangeShapes Go.WideShapes Go.ChangeAt Go.Joins


def allIn (l : List Int) : Bool := l.all fun n => inB n 0 96
def psum (xs : List Int) (k : Nat) : Int := (xs.take k).sum
theorem allIn_bd {l : List Int} (h : allIn l = true) : 0 ≤ l.sum ∧ l.sum ≤ 96 * (l.length : Int) := by
  induction l with
  | nil => simp
  | cons x l ih =>
    simp only [allIn, List.all_cons, Bool.and_eq_true] at h
    have h1 := inB_iff.1 h.1
    have h2 := ih h.2
    simp only [List.sum_cons, List.length_cons]
    omega
theorem allIn_succ {xs : List Int} {k : Nat} (h : k < xs.length) : allIn (xs.take (k + 1)) = (allIn (xs.take k) && inB xs[k] 0 96) := by
  rw [List.take_succ_eq_append_getElem h]; simp only [allIn, List.all_append, List.all_cons, List.all_nil, Bool.and_true]
theorem psum_succ {xs : List Int} {k : Nat} (h : k < xs.length) : psum xs (k + 1) = psum xs k + xs[k] := by
  unfold psum; rw [List.take_succ_eq_append_getElem h]; simp only [List.sum_append, List.sum_cons, List.sum_nil, Int.add_zero]
theorem psum_bd {xs : List Int} {k : Nat} (h : allIn (xs.take k) = true) : 0 ≤ psum xs k ∧ psum xs k ≤ 96 * (k : Int) := by
  have := allIn_bd h
  have h2 : (xs.take k).length ≤ k := List.length_take_le _ _
  unfold psum; omega
theorem allIn_not {xs : List Int} {k : Nat} (h : k < xs.length) (hf : inB xs[k] 0 96 = false) : allIn xs = false := by
  unfold allIn; rw [List.all_eq_false]; exact ⟨xs[k], List.getElem_mem h, by simp [hf]⟩
theorem allIn_get {xs : List Int} (h : allIn xs = true) {n : Int} (hn : n ∈ xs) : 0 ≤ n ∧ n ≤ 96 := inB_iff.1 (List.all_eq_true.1 h n hn)
def sumO (l : List Int) : Int := if allIn l then l.sum else 0
def sumS (l : List Int) : Int := if allIn l && decide (l.sum ≤ 96) then l.sum else -1

set_option maxHeartbeats 1000000 in
theorem sumOf_c (a : Option Addr) (c : Nat) (xs : List Int) (w : World) (h : Ints w a xs) (hm : xs.length ≤ 16777216) :
    Calls Try.prog 109 #[.slice a xs.length c] w fun e w' => e = .returned (.tuple #[.int .i64 (sumO xs), .bool (allIn xs)]) ∧ w = w' := by
  go_enter Try.func109, Try.ntmps109
  go_wp2
  go_loop [4, 9] (fun s i => ∃ k : Nat, k ≤ xs.length ∧ i = .int .i64 k ∧ Hid (allIn (xs.take k) = true) ∧ s = .int .i64 (psum xs k)) (fun _ i => xs.length - (intOf i).toNat)
  case atStart => exact ⟨0, Nat.zero_le _, rfl, by simp [Hid, allIn], rfl⟩
  case round =>
    obtain ⟨k, hk, rfl, hin, rfl⟩ := hrel
    obtain ⟨b0, b1⟩ := psum_bd hin.out
    by_cases hlt : k < xs.length
    · obtain ⟨b, o, rfl, hb, hc⟩ := Ints.at h hlt
      have HP := Lib.hid (psum_succ hlt)
      have HA := Lib.hid (allIn_succ hlt)
      cases hx : inB xs[k] 0 96
      · have HN := Lib.hid (allIn_not hlt hx)
        go_wp2_with (go_at_call 76; refine (between_c _ _ _ _).mono ?_; rintro e w' ⟨rfl, rfl⟩)
        go_ret2
        exact ⟨by simp [sumO, HN.out], rfl⟩
      · obtain ⟨x0, x1⟩ := inB_iff.1 hx
        go_wp2_with (go_at_call 76; refine (between_c _ _ _ _).mono ?_; rintro e w' ⟨rfl, rfl⟩)
        go_round
        case rel => exact ⟨k + 1, by omega, by go_num, by unfold Hid; rw [HA.out, hin.out, hx]; rfl, by rw [HP.out]⟩
        case measure => simp [intOf]; omega
    · have he : xs.take k = xs := List.take_of_length_le (by omega)
      have HE : Hid (psum xs k = sumO xs ∧ allIn xs = true) := by
        have := hin.out
        rw [he] at this
        exact ⟨by simp [psum, he, sumO, this], this⟩
      clear he
      go_wp2
      go_ret2
      exact ⟨by rw [HE.out.1, HE.out.2]; rfl, rfl⟩

set_option maxHeartbeats 1000000 in
theorem l04Sum_c (a : Option Addr) (c : Nat) (xs : List Int) (w : World) (h : Ints w a xs) (hm : xs.length ≤ 16777216) :
    Calls Try.prog 104 #[.slice a xs.length c] w fun e w' => e = .returned (.int .i64 (sumS xs)) ∧ w = w' := by
  go_enter Try.func104, Try.ntmps104
  go_wp2
  go_loop [3, 4] (fun s i => ∃ k : Nat, k ≤ xs.length ∧ i = .int .i64 k ∧ Hid (allIn (xs.take k) = true) ∧ s = .int .i64 (psum xs k)) (fun _ i => xs.length - (intOf i).toNat)
  case atStart => exact ⟨0, Nat.zero_le _, rfl, by simp [Hid, allIn], rfl⟩
  case round =>
    obtain ⟨k, hk, rfl, hin, rfl⟩ := hrel
    obtain ⟨b0, b1⟩ := psum_bd hin.out
    by_cases hlt : k < xs.length
    · obtain ⟨b, o, rfl, hb, hc⟩ := Ints.at h hlt
      have HP := Lib.hid (psum_succ hlt)
      have HA := Lib.hid (allIn_succ hlt)
      cases hx : inB xs[k] 0 96
      · have HN := Lib.hid (allIn_not hlt hx)
        go_wp2_with (go_at_call 72; refine (l00In_c _ _ _ _).mono ?_; rintro e w' ⟨rfl, rfl⟩)
        go_ret
        exact ⟨by simp [sumS, HN.out], rfl⟩
      · obtain ⟨x0, x1⟩ := inB_iff.1 hx
        go_wp2_with (go_at_call 72; refine (l00In_c _ _ _ _).mono ?_; rintro e w' ⟨rfl, rfl⟩)
        go_round
        case rel => exact ⟨k + 1, by omega, by go_num, by unfold Hid; rw [HA.out, hin.out, hx]; rfl, by rw [HP.out]⟩
        case measure => simp [intOf]; omega
    · have he : xs.take k = xs := List.take_of_length_le (by omega)
      have HE : Hid (psum xs k = xs.sum ∧ allIn xs = true) := by
        have := hin.out
        rw [he] at this
        exact ⟨by simp [psum, he], this⟩
      clear he
      go_wp2
      all_goals go_ret
      · have hgt : 96 < psum xs k := by first | assumption | omega
        rw [HE.out.1] at hgt
        exact ⟨by simp [sumS, HE.out.2]; omega, rfl⟩
      · have hgt : psum xs k ≤ 96 := by first | assumption | omega
        rw [HE.out.1] at hgt
        exact ⟨by simp [sumS, HE.out.1, HE.out.2, hgt], rfl⟩

/-- a position is valid for rules -/
def P.ok (p : P) (r : R) : Bool := r.ok && decide ((p.pits.length : Int) = 2 * r.pits) && decide (p.stores.length = 2) && inB p.player 0 1 && allIn p.pits && allIn p.stores && decide (p.pits.sum + p.stores.sum ≤ 96)
theorem P.boxc {w : World} {b : Nat} {p : P} {pa sa : Option Addr} {pc sc : Nat} (h : BoxP b (p.cells pa pc sa sc).toList w) :
    w.cell? ⟨b, 0, none⟩ = some (.slice pa p.pits.length pc) ∧ w.cell? ⟨b, 1, none⟩ = some (.slice sa p.stores.length sc) ∧ w.cell? ⟨b, 2, none⟩ = some (.int .i64 p.player) := ⟨h 0 _ rfl, h 1 _ rfl, h 2 _ rfl⟩

theorem isPlayer2_c (n : Int) (w : World) :
    Calls Try.prog 108 #[.int .i64 n] w fun e w' => e = .returned (.bool (inB n 0 1)) ∧ w = w' := by
  go_enter Try.func108, Try.ntmps108
  go_wp2
  all_goals go_ret
  all_goals refine ⟨ret_bool ?_, rfl⟩
  all_goals (rw [Bool.eq_iff_iff]; simp [inB, *]; try omega)
set_option maxHeartbeats 4000000 in
theorem ValidPosition_c (r : R) (p : P) (pa sa : Option Addr) (pc sc : Nat) (w : World) (h : PRow w p pa sa) (h1 : p.pits.length ≤ 16777216) (h2 : p.stores.length ≤ 16777216) :
    Calls Try.prog 60 #[r.val, p.val pa pc sa sc] w fun e w' => e = .returned (.bool (p.ok r)) ∧ Below w.heap.size w w' := by
  go_enter Try.func60, Try.ntmps60
  go_wp2_with fail
  refine (ValidRules_c r _).mono ?_
  rintro e w1 ⟨rfl, hb1⟩
  have F1 := (((Fr.start w).alloc r.cells 33).alloc (p.cells pa pc sa sc) 30).step hb1
  clear hb1
  cases hok : r.ok
  · have HO := Lib.hid hok
    go_wp2
    go_ret
    exact ⟨by simp [P.ok, HO.out], F1.below⟩
  · have HO := Lib.hid hok
    obtain ⟨⟨r0, r1⟩, _⟩ := R.ok_iff.1 hok
    obtain ⟨p0, p1, p2⟩ := P.boxc (F1.at 0 rfl)
    obtain ⟨c0, _⟩ := R.boxc (F1.at 1 rfl)
    simp only [World.size_alloc] at p0 p1 p2 c0
    have hP := h.below F1.below (Nat.le_refl _)
    by_cases hl : (p.pits.length : Int) = 2 * r.pits
    case neg =>
      have ht : ((p.pits.length : Int) != 2 * r.pits) = true := by simpa using hl
      have HL := Lib.hid hl
      clear hl
      go_wp2
      go_ret
      exact ⟨by simp [P.ok, HL.out], F1.below⟩
    have ht : ((p.pits.length : Int) != 2 * r.pits) = false := by simpa using hl
    have HL := Lib.hid hl
    clear hl
    by_cases hs : p.stores.length = 2
    case neg =>
      have ht2 : ((p.stores.length : Int) != 2) = true := by rw [bne_iff_ne]; omega
      have HS := Lib.hid hs
      clear hs
      go_wp2
      go_ret
      exact ⟨by simp [P.ok, HS.out], F1.below⟩
    have ht2 : ((p.stores.length : Int) != 2) = false := by simp [hs]
    have HS := Lib.hid hs
    clear hs
    cases hp : inB p.player 0 1
    · have HP := Lib.hid hp
      go_wp2_with (go_at_call 108; refine (isPlayer2_c _ _).mono ?_; rintro e w' ⟨rfl, rfl⟩)
      go_ret
      exact ⟨by simp [P.ok, HP.out], F1.below⟩
    have HP := Lib.hid hp
    go_wp2_with (go_at_call 108; refine (isPlayer2_c _ _).mono ?_; rintro e w' ⟨rfl, rfl⟩)
    refine (sumOf_c pa pc p.pits _ hP.pits h1).mono ?_
    rintro e w' ⟨rfl, rfl⟩
    go_wp2_with fail
    refine (sumOf_c sa sc p.stores _ hP.stores h2).mono ?_
    rintro e w' ⟨rfl, rfl⟩
    cases ha : allIn p.pits
    · have HA := Lib.hid ha
      go_wp2
      go_ret
      exact ⟨by simp [P.ok, HA.out], F1.below⟩
    cases hb : allIn p.stores
    · have HB := Lib.hid hb
      go_wp2
      go_ret
      exact ⟨by simp [P.ok, HB.out], F1.below⟩
    have HA := Lib.hid ha
    have HB := Lib.hid hb
    have e1 : Hid (sumO p.pits = p.pits.sum) := by simp [Hid, sumO, ha]
    have e2 : Hid (sumO p.stores = p.stores.sum) := by simp [Hid, sumO, hb]
    have b1 : 0 ≤ sumO p.pits ∧ sumO p.pits ≤ 2000000000 := by rw [e1.out]; have := allIn_bd ha; omega
    have b2 : 0 ≤ sumO p.stores ∧ sumO p.stores ≤ 2000000000 := by rw [e2.out]; have := allIn_bd hb; omega
    obtain ⟨b1, b3⟩ := b1
    obtain ⟨b2, b4⟩ := b2
    go_wp2
    go_ret
    refine ⟨ret_bool ?_, F1.below⟩
    rw [e1.out, e2.out]
    simp [P.ok, HO.out, HL.out, HS.out, HP.out, HA.out, HB.out]

/-- the cells of a position in memory -/
structure P.At (w : World) (b o : Nat) (p : P) (pa : Option Addr) (pc : Nat) (sa : Option Addr) (sc : Nat) : Prop where
  c0 : w.cell? ⟨b, o, none⟩ = some (.slice pa p.pits.length pc)
  c1 : w.cell? ⟨b, o + 1, none⟩ = some (.slice sa p.stores.length sc)
  c2 : w.cell? ⟨b, o + 2, none⟩ = some (.int .i64 p.player)
set_option maxHeartbeats 4000000 in
theorem l04Ok_c (rb ro pb po : Nat) (r : R) (p : P) (pa sa : Option Addr) (pc sc : Nat) (w : World) (hat : R.At w rb ro r) (pat : P.At w pb po p pa pc sa sc) (h : PRow w p pa sa) (h1 : p.pits.length ≤ 16777216) (h2 : p.stores.length ≤ 16777216) :
    Calls Try.prog 55 #[.pointer (some ⟨rb, ro, none⟩), .pointer (some ⟨pb, po, none⟩)] w fun e w' => e = .returned (.bool (p.ok r)) ∧ ∃ m, w' = w.drewN m := by
  obtain ⟨p0, p1, p2⟩ := pat
  have c0 := hat.c0
  have HR := Lib.hid hat
  clear hat
  cases hok : r.ok
  · have HO := Lib.hid hok
    go_enter Try.func55, Try.ntmps55
    go_wp2
    go_quiet ((go_at_call 103; exact Calls.quiet_of_same (q_same (l02Ok_c _ _ _ _ (HR.out.draw _)))))
    go_wp2
    go_ret
    exact ⟨by simp [P.ok, HO.out], _, rfl⟩
  have HO := Lib.hid hok
  obtain ⟨⟨r0, r1⟩, _⟩ := R.ok_iff.1 hok
  by_cases hl : (p.pits.length : Int) = 2 * r.pits
  case neg =>
    have ht : ((p.pits.length : Int) != 2 * r.pits) = true := by simpa using hl
    have HL := Lib.hid hl
    clear hl
    go_enter Try.func55, Try.ntmps55
    go_wp2
    go_quiet ((go_at_call 103; exact Calls.quiet_of_same (q_same (l02Ok_c _ _ _ _ (HR.out.draw _)))))
    go_wp2
    go_ret
    exact ⟨by simp [P.ok, HL.out], _, rfl⟩
  have ht : ((p.pits.length : Int) != 2 * r.pits) = false := by simpa using hl
  have HL := Lib.hid hl
  clear hl
  by_cases hs : p.stores.length = 2
  case neg =>
    have ht2 : ((p.stores.length : Int) != 2) = true := by rw [bne_iff_ne]; omega
    have HS := Lib.hid hs
    clear hs
    go_enter Try.func55, Try.ntmps55
    go_wp2
    go_quiet ((go_at_call 103; exact Calls.quiet_of_same (q_same (l02Ok_c _ _ _ _ (HR.out.draw _)))))
    go_wp2
    go_ret
    exact ⟨by simp [P.ok, HS.out], _, rfl⟩
  have ht2 : ((p.stores.length : Int) != 2) = false := by simp [hs]
  have HS := Lib.hid hs
  clear hs
  cases hp : inB p.player 0 1
  · have HP := Lib.hid hp
    go_enter Try.func55, Try.ntmps55
    go_wp2
    go_quiet ((first | (go_at_call 103; exact Calls.quiet_of_same (q_same (l02Ok_c _ _ _ _ (HR.out.draw _)))) | (go_at_call 72; exact Calls.quiet_of_same (q_same (l00In_c _ _ _ _)))))
    go_wp2
    go_ret
    exact ⟨by simp [P.ok, HP.out], _, rfl⟩
  have HP := Lib.hid hp
  go_enter Try.func55, Try.ntmps55
  go_wp2
  go_quiet ((first | (go_at_call 103; exact Calls.quiet_of_same (q_same (l02Ok_c _ _ _ _ (HR.out.draw _)))) | (go_at_call 72; exact Calls.quiet_of_same (q_same (l00In_c _ _ _ _)))))
  go_wp2_with fail
  refine (l04Sum_c pa pc p.pits _ (h.pits.drewN _) h1).mono ?_
  rintro e w' ⟨rfl, rfl⟩
  go_wp2_with fail
  refine (l04Sum_c sa sc p.stores _ (h.stores.drewN _) h2).mono ?_
  rintro e w' ⟨rfl, rfl⟩
  have e1 : Hid ((p.ok r) = (decide (0 ≤ sumS p.pits) && decide (0 ≤ sumS p.stores) && decide (sumS p.pits + sumS p.stores ≤ 96))) := by
    unfold Hid
    rw [Bool.eq_iff_iff]
    simp only [P.ok, HO.out, HL.out, HS.out, HP.out, Bool.and_eq_true, decide_eq_true_eq, sumS]
    cases ha : allIn p.pits
    · simp
    · cases hb : allIn p.stores
      · simp
      · have := allIn_bd ha
        have := allIn_bd hb
        simp
        split <;> split <;> omega
  have b1 : -1 ≤ sumS p.pits ∧ sumS p.pits ≤ 96 := by
    unfold sumS; split
    · rename_i hh; simp at hh; have := allIn_bd hh.1; omega
    · omega
  have b2 : -1 ≤ sumS p.stores ∧ sumS p.stores ≤ 96 := by
    unfold sumS; split
    · rename_i hh; simp at hh; have := allIn_bd hh.1; omega
    · omega
  obtain ⟨b1, b3⟩ := b1
  obtain ⟨b2, b4⟩ := b2
  go_wp2
  all_goals go_ret
  all_goals refine ⟨ret_bool ?_, _, rfl⟩
  all_goals (rw [e1.out]; simp; try omega)

end Go.Proofs.Ytbjgigdkbjabaaa
