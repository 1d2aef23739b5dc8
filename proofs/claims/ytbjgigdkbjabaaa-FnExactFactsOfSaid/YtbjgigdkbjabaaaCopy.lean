/- Copy: the contracts of the functions that copy a slice of numbers. Each holds for every argument, under the premises that it states. -/
import Derived.Test.YtbjgigdkbjabaaaInts
import Derived.Deep.AppendSrc
namespace Go.Proofs.Ytbjgigdkbjabaaa
set_option linter.unusedSimpArgs false
set_option linter.unusedVariables false
set_option linter.unnecessarySimpa false
open Go.RowKit Go.ChangeShapes Go.WideShapes Go.ChangeAt Go.Joins

theorem wpList_append_nothing {P : Program} (w : World) {ops : Array Oper} {rest : List Oper} {o : Oper} {a : Act} {Q : Exit → Act → World → Prop}
    (hg : o.guard = none) (s x : Operand) (t : TypeId) (hop : o.op = Op.call { callee := Callee.builtin Builtin.append, args := #[s, x], argTypes := #[t, t] })
    (u y v : Value) (hs : a.eval s = u) (hx : a.eval x = y) (hrun : (Builtin.append_ #[t, t] o.type #[u, y]).run P w = .ok v w)
    (hK : wpList P ops Q rest (a.put o.dst v) w) : wpList P ops Q (o :: rest) a w := by
  refine wpList_plain hg fun K hK' => ?_
  unfold Oper.wp
  simp [execOp, hop, resolve, invoke, builtin, hs, hx, hrun, Result.andThen]
  exact hK' _ _ hK

set_option maxRecDepth 100000 in
set_option maxHeartbeats 1000000 in
theorem copyNumbers_c (a : Option Addr) (c : Nat) (xs : List Int) (w : World) (h : Ints w a xs) (hm : xs.length ≤ 16777216) :
    Calls Try.prog 110 #[.slice a xs.length c] w fun e w' => ∃ a' c', e = .returned (.slice a' xs.length c') ∧ OwnI w' w.heap.size a' c' xs ∧ Below w.heap.size w w' := by
  obtain ⟨i0, hi, hz0, hz1, hz2⟩ := info_parts infoI
  cases xs with
  | nil =>
    have happ : ∀ W : World, (Builtin.append_ #[24, 24] 24 #[.slice (some ⟨w.heap.size, 0, none⟩) 0 0, .slice a 0 c]).run Try.prog W = .ok (.slice (some ⟨w.heap.size, 0, none⟩) 0 0) W := by
      intro W
      have hs : Src Try.prog i0.size 24 (.slice a 0 c) 0 [] W := by
        cases a with
        | none => exact Src.ofNil W Try.underlying24 c
        | some ad => exact Src.ofSlice W Try.underlying24 ad 0 c [] (by simp) (by simp) (by simp)
      have := run_append_room_src (P := Try.prog) W 24 24 24 2 i0 Try.underlying24 hi w.heap.size 0 0 0 (.slice a 0 c) 0 [] hs (by omega) (by simp) (by simp)
      simpa [World.setCells] using this
    go_enter Try.func110, Try.ntmps110
    go_wp2_with (at_builtin; refine wpList_append_nothing _ rfl _ _ 24 rfl _ _ _ rfl rfl (happ _) ?_)
    go_ret
    refine ⟨some ⟨w.heap.size, 0, none⟩, 0, rfl, ?_, below_alloc1 _ _⟩
    exact World.ownsRow_lit (base := w.heap.size) (e := 2) (size := 1) w #[] 0 (Nat.le_refl _) (Nat.zero_le _) rfl
  | cons x xs =>
    obtain ⟨b, o, rfl, hb, hc⟩ := Row.at h (by simp)
    have HC := Lib.hid hc
    clear hc h
    have ho := World.ownsRow_lit (base := w.heap.size) (e := 2) (size := 1) w #[] 0 (Nat.le_refl _) (Nat.zero_le _) rfl
    go_enter Try.func110, Try.ntmps110
    go_wp2_with (at_builtin; refine wpList_append_own _ rfl _ _ 24 rfl w.heap.size 2 i0 (.int .i64 0) 1 8 Try.underlying24 hi hz0 hz1 hz2 rfl (by decide) _ 0 [] rfl ho ⟨b, o, none⟩ (x :: xs).length c ((x :: xs).map (Value.int .i64)) rfl (by simp) ?c1 (ints_oneCell _ _) ?c2 ?c3 ?c4 ?_)
    case c1 =>
      intro j u hu
      exact HC.out j u hu
    case c2 => unfold maxLen; simp at hm ⊢; omega
    case c3 => simp at hm ⊢; omega
    intro v' w1 hown hg hn
    obtain ⟨a', c', rfl⟩ := own_form hown
    have HO := Lib.hid hown
    have HG := Lib.hid hg
    clear hown hg hn
    go_wp2
    go_ret
    refine ⟨a', c', by simp, by simpa [OwnI] using HO.out, ?_⟩
    exact below_grown (below_alloc1 _ _) HG.out (fun k hk => by simp [Value.ownBlock] at hk; omega)

set_option maxRecDepth 100000 in
set_option maxHeartbeats 1000000 in
theorem l00Own_c (a : Option Addr) (c : Nat) (xs : List Int) (w : World) (h : Ints w a xs) (hm : xs.length ≤ 16777216) :
    Calls Try.prog 105 #[.slice a xs.length c] w fun e w' => ∃ a' c', e = .returned (.slice a' xs.length c') ∧ OwnI w' w.heap.size a' c' xs ∧ Below w.heap.size w w' := by
  obtain ⟨i0, hi, hz0, hz1, hz2⟩ := info_parts infoI
  cases xs with
  | nil =>
    have happ : ∀ W : World, (Builtin.append_ #[24, 24] 24 #[.slice (some ⟨w.heap.size, 0, none⟩) 0 0, .slice a 0 c]).run Try.prog W = .ok (.slice (some ⟨w.heap.size, 0, none⟩) 0 0) W := by
      intro W
      have hs : Src Try.prog i0.size 24 (.slice a 0 c) 0 [] W := by
        cases a with
        | none => exact Src.ofNil W Try.underlying24 c
        | some ad => exact Src.ofSlice W Try.underlying24 ad 0 c [] (by simp) (by simp) (by simp)
      have := run_append_room_src (P := Try.prog) W 24 24 24 2 i0 Try.underlying24 hi w.heap.size 0 0 0 (.slice a 0 c) 0 [] hs (by omega) (by simp) (by simp)
      simpa [World.setCells] using this
    go_enter Try.func105, Try.ntmps105
    go_wp2_with (at_builtin; refine wpList_append_nothing _ rfl _ _ 24 rfl _ _ _ rfl rfl (happ _) ?_)
    go_ret
    refine ⟨some ⟨w.heap.size, 0, none⟩, 0, rfl, ?_, below_alloc1 _ _⟩
    exact World.ownsRow_lit (base := w.heap.size) (e := 2) (size := 1) w #[] 0 (Nat.le_refl _) (Nat.zero_le _) rfl
  | cons x xs =>
    obtain ⟨b, o, rfl, hb, hc⟩ := Row.at h (by simp)
    have HC := Lib.hid hc
    clear hc h
    have ho := World.ownsRow_lit (base := w.heap.size) (e := 2) (size := 1) w #[] 0 (Nat.le_refl _) (Nat.zero_le _) rfl
    go_enter Try.func105, Try.ntmps105
    go_wp2_with (at_builtin; refine wpList_append_own _ rfl _ _ 24 rfl w.heap.size 2 i0 (.int .i64 0) 1 8 Try.underlying24 hi hz0 hz1 hz2 rfl (by decide) _ 0 [] rfl ho ⟨b, o, none⟩ (x :: xs).length c ((x :: xs).map (Value.int .i64)) rfl (by simp) ?c1 (ints_oneCell _ _) ?c2 ?c3 ?c4 ?_)
    case c1 =>
      intro j u hu
      exact HC.out j u hu
    case c2 => unfold maxLen; simp at hm ⊢; omega
    case c3 => simp at hm ⊢; omega
    intro v' w1 hown hg hn
    obtain ⟨a', c', rfl⟩ := own_form hown
    have HO := Lib.hid hown
    have HG := Lib.hid hg
    clear hown hg hn
    go_wp2
    go_ret
    refine ⟨a', c', by simp, by simpa [OwnI] using HO.out, ?_⟩
    exact below_grown (below_alloc1 _ _) HG.out (fun k hk => by simp [Value.ownBlock] at hk; omega)

end Go.Proofs.Ytbjgigdkbjabaaa
