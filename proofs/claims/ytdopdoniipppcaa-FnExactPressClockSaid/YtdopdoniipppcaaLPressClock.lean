/- The law FnExactPressClock returns true for every argument, and every argument reads afterwards as before. No conditions. -/
import Derived.Test.YtdopdoniipppcaaClock9
namespace Go.Proofs.Ytdopdoniipppcaa.lPressClock
set_option linter.unusedSimpArgs false
set_option linter.unusedVariables false
set_option linter.unnecessarySimpa false
open Go.RowKit Go.ChangeShapes Go.WideShapes Go.ChangeAt Go.Joins
open Go.ChangeMaps (open_string)

set_option maxRecDepth 100000 in
set_option maxHeartbeats 8000000 in
theorem walk (x : Ck) (a : Option Addr) (c : Nat) (now : Int) (w : World) (h : Ints w a x.left) (hm : x.left.length ≤ maxLen) (y : Ck × Int) (hy : y.1.left.length ≤ 1048576)
    (hs : ∀ (a : Option Addr) (c : Nat) (w : World), Ints w a x.left → x.left.length ≤ 1048576 → Calls Try.prog 14 #[x.val a c, .int .i64 now] w (CkRes w y))
    (hi : ∀ (a : Option Addr) (c : Nat) (w : World), Ints w a x.left → x.left.length ≤ 1048576 → Calls Try.prog 15 #[x.val a c, .int .i64 now] w (CkRes w y)) :
    Calls Try.prog 4 #[x.val a c, .int .i64 now] w fun e w' => e = .returned (.bool true) ∧ Below w.heap.size w w' := by
  have HS := Lib.hid hs
  have HI := Lib.hid hi
  clear hs hi
  obtain ⟨y, yc⟩ := y
  simp only at hy
  go_enter Try.func4, Try.ntmps4
  go_wp2_with fail
  refine (szClock_c x a c _ _ (by omega) (by omega) hm).mono ?_
  rintro e w1 ⟨rfl, hb1⟩
  have s1 := hb1.size
  simp only [World.size_alloc] at s1
  have F1 := ((Fr.start w).alloc (x.cells a c) 24).step hb1
  by_cases hl : szI 1048576 x.left.length < 0
  · go_wp2
    go_ret
    exact ⟨rfl, F1.below⟩
  have hlen : x.left.length ≤ 1048576 := by unfold szI at hl; split at hl <;> omega
  obtain ⟨p0, p1, p2, p3, p4, p5, p6⟩ := Ck.boxc (F1.at 0 rfl)
  have zA : w.heap.size < w1.heap.size := F1.le 0 rfl
  clear hb1
  go_wp2_with fail
  refine (toClock_c x a c _ (h.below F1.below (Nat.le_refl _)) hlen).mono ?_
  rintro e w2 ⟨a2, c2, rfl, ho2, hb2⟩
  have F2 := F1.step hb2
  have s2 := hb2.size
  clear p0 p1 p2 p3 p4 p5 p6 zA hb2
  go_wp2_with fail
  refine (HS.out a2 c2 _ (own_row ho2) hlen).mono ?_
  rintro e w3 ⟨a3, c3, rfl, ho3, hb3⟩
  have F3 := (F2.step hb3).own ho3
  obtain ⟨p0, p1, p2, p3, p4, p5, p6⟩ := Ck.boxc (F3.at 1 rfl)
  have zA : w.heap.size < w3.heap.size := F3.le 1 rfl
  have s3 := hb3.size
  clear hb3 ho2 ho3
  go_wp2_with fail
  have F4 := F3.alloc (y.cells a3 c3) 26
  refine (toClock_c x a c _ (h.below F4.below (Nat.le_refl _)) hlen).mono ?_
  rintro e w4 ⟨a4, c4, rfl, ho4, hb4⟩
  have F5 := (F4.step hb4).own ho4
  have s4 := hb4.size
  simp only [World.size_alloc] at s4
  clear p0 p1 p2 p3 p4 p5 p6 zA hb4 F4
  go_wp2_with fail
  have F6 := F5.alloc (x.cells a4 c4) 26
  refine (HI.out a4 c4 _ (own_row (F6.at 1 rfl).1) hlen).mono ?_
  rintro e w5 ⟨a5, c5, rfl, ho5, hb5⟩
  have F7 := (F6.step hb5).own ho5
  have s5 := hb5.size
  simp only [World.size_alloc] at s5
  clear ho4 hb5 F5 F6
  have F8 := F7.alloc (y.cells a5 c5) 26
  obtain ⟨q0, q1, q2, q3, q4, q5, q6⟩ := Ck.boxc (F7.at 3 rfl)
  have zW : w3.heap.size < w5.heap.size := F7.le 3 rfl
  go_wp2_with fail
  refine (eqClock_c y y a5 a3 c5 c3 _ (own_row (F8.at 1 rfl).1) (own_row (F8.at 5 rfl).1) (by unfold maxLen; omega) (by unfold maxLen; omega)).mono ?_
  rintro e w6 ⟨rfl, hb6⟩
  have F9 := F8.step hb6
  have s6 := hb6.size
  simp only [World.size_alloc] at s6
  clear q0 q1 q2 q3 q4 q5 q6 zW hb6 F7 F8
  obtain ⟨q0, q1, q2, q3, q4, q5, q6⟩ := Ck.boxc (F9.at 2 rfl)
  obtain ⟨p0, p1, p2, p3, p4, p5, p6⟩ := Ck.boxc (F9.at 6 rfl)
  have zX : w4.heap.size < w6.heap.size := F9.le 2 rfl
  have zA : w.heap.size < w6.heap.size := F9.le 6 rfl
  go_wp2_with fail
  go_region_held3 (fun w' => ∀ b o, b < w6.heap.size → w'.cell? ⟨b, o, none⟩ = w6.cell? ⟨b, o, none⟩) (first | exact hcA | exact hcB | (intro b o h; rfl))
    (first
      | (go_at_call 9; refine (toClock_c x a c _ (h.below F9.drew.below (Nat.le_refl _)) hlen).mono ?_; rintro e w7 ⟨a7, c7, rfl, ho7, hb7⟩; have hcA : ∀ b o, b < w6.heap.size → w7.cell? ⟨b, o, none⟩ = w6.cell? ⟨b, o, none⟩ := fun b o h => (bcell hb7).1 b o h)
      | (go_at_call 11; refine (eqClock_c x x a4 a7 c4 c7 _ (own_row ((F9.drew.step hb7).at 3 rfl).1) (own_row ho7) hm hm).mono ?_; rintro e w8 ⟨rfl, hb8⟩; have hcB : ∀ b o, b < w6.heap.size → w8.cell? ⟨b, o, none⟩ = w6.cell? ⟨b, o, none⟩ := fun b o h => ((bcell hb8).1 b o (Nat.lt_of_lt_of_le h hb7.size)).trans (hcA b o h)))
  have F10 := (F9.drew.step hb7).step hb8
  have s8 := Nat.le_trans hb7.size hb8.size
  simp only [World.size_drew] at s8
  clear p0 p1 p2 p3 p4 p5 p6 q0 q1 q2 q3 q4 q5 q6 zX zA hcA hcB hb7 hb8 ho7 F9
  obtain ⟨q0, q1, q2, q3, q4, q5, q6⟩ := Ck.boxc (F10.at 2 rfl)
  go_wp2_with fail
  refine (markClock_c _ x a4 c4 1 _ (F10.at 3 rfl).1 (by omega) (by omega)).mono ?_
  rintro e w9 ⟨rfl, ho9, hg9⟩
  have F11 := F10.chgAt 3 (RowP.chg (F10.at 3 rfl) hg9) (by simp; omega) (by simp [List.eraseIdx]; omega)
  have s9 := hg9.size
  clear q0 q1 q2 q3 q4 q5 q6 ho9 hg9 F10
  obtain ⟨q0, q1, q2, q3, q4, q5, q6⟩ := Ck.boxc (show BoxP w5.heap.size (y.cells a5 c5).toList w9 from F11.at 0 rfl)
  obtain ⟨p0, p1, p2, p3, p4, p5, p6⟩ := Ck.boxc (show BoxP w3.heap.size (y.cells a3 c3).toList w9 from F11.at 3 rfl)
  go_wp2_with fail
  refine (eqClock_c y y a5 a3 c5 c3 _ (own_row (F11.at 1 rfl).1) (own_row (F11.at 4 rfl).1) (by unfold maxLen; omega) (by unfold maxLen; omega)).mono ?_
  rintro e w10 ⟨rfl, hb10⟩
  have F12 := F11.step hb10
  have s10 := hb10.size
  clear q0 q1 q2 q3 q4 q5 q6 p0 p1 p2 p3 p4 p5 p6 hb10 F11
  obtain ⟨q0, q1, q2, q3, q4, q5, q6⟩ := Ck.boxc (show BoxP w5.heap.size (y.cells a5 c5).toList w10 from F12.at 0 rfl)
  go_wp2_with fail
  refine (markClock_c _ y a5 c5 1 _ (F12.at 1 rfl).1 (by omega) (by omega)).mono ?_
  rintro e w11 ⟨rfl, ho11, hg11⟩
  have F13 := (F12.chgAt 1 (RowP.chg (F12.at 1 rfl) hg11) (by simp; omega) (by simp [List.eraseIdx]; omega)).ownV ho11
  have s11 := hg11.size
  clear q0 q1 q2 q3 q4 q5 q6 hg11 ho11 F12
  obtain ⟨q0, q1, q2, q3, q4, q5, q6⟩ := Ck.boxc (show BoxP w5.heap.size (y.cells a5 c5).toList w11 from F13.at 1 rfl)
  go_wp2_with fail
  refine (heldClock_c y a5 c5 1 _ (own_row (F13.at 0 rfl).1) (by omega) (by omega)).mono ?_
  rintro e w12 ⟨rfl, hb12⟩
  have F14 := F13.step hb12
  clear q0 q1 q2 q3 q4 q5 q6 hb12 F13
  obtain ⟨p0, p1, p2, p3, p4, p5, p6⟩ := Ck.boxc (show BoxP w.heap.size (x.cells a c).toList w12 from F14.at 5 rfl)
  go_wp2_with fail
  refine (toClock_c x a c _ (h.below F14.below (Nat.le_refl _)) hlen).mono ?_
  rintro e w13 ⟨a13, c13, rfl, ho13, hb13⟩
  have F15 := F14.step hb13
  clear p0 p1 p2 p3 p4 p5 p6 hb13 F14
  go_wp2_with fail
  refine (HI.out a13 c13 _ (own_row ho13) hlen).mono ?_
  rintro e w14 ⟨a14, c14, rfl, ho14, hb14⟩
  have F16 := (F15.step hb14).own ho14
  have F17 := F16.alloc (y.cells a14 c14) 26
  clear ho13 hb14 F15
  obtain ⟨p0, p1, p2, p3, p4, p5, p6⟩ := Ck.boxc (show BoxP w3.heap.size (y.cells a3 c3).toList w14 from F16.at 4 rfl)
  have zW : w3.heap.size < w14.heap.size := F16.le 4 rfl
  go_wp2_with fail
  refine (eqClock_c y y a14 a3 c14 c3 _ (own_row (F17.at 1 rfl).1) (own_row (F17.at 6 rfl).1) (by unfold maxLen; omega) (by unfold maxLen; omega)).mono ?_
  rintro e w15 ⟨rfl, hb15⟩
  have F18 := F17.step hb15
  clear p0 p1 p2 p3 p4 p5 p6 zW hb15 F16 F17 ho14
  obtain ⟨q0, q1, q2, q3, q4, q5, q6⟩ := Ck.boxc (show BoxP w5.heap.size (y.cells a5 c5).toList w15 from F18.at 3 rfl)
  go_wp2_with fail
  refine (heldClock_c y a5 c5 1 _ (own_row (F18.at 2 rfl).1) (by omega) (by omega)).mono ?_
  rintro e w16 ⟨rfl, hb16⟩
  have F19 := F18.step hb16
  clear q0 q1 q2 q3 q4 q5 q6 hb16 F18
  go_wp2
  go_ret
  exact ⟨rfl, F19.below⟩

theorem walked (x : Ck) (a : Option Addr) (c : Nat) (now : Int) (w : World) (h : Ints w a x.left) (hm : x.left.length ≤ maxLen) :
    Calls Try.prog 4 #[x.val a c, .int .i64 now] w fun e w' => e = .returned (.bool true) ∧ Below w.heap.size w w' := by
  by_cases hl : x.left.length ≤ 1048576
  · exact walk x a c now w h hm (pressP x now) (pressP_len x now) (fun a c w h hl => sPressClock_c x a c now w h (by omega)) (fun a c w h hl => iPressClock_c x a c now w h (by omega))
  · exact walk x a c now w h hm (Ck.zero, 0) (by simp [Ck.zero]) (fun a c w h hl' => absurd hl' hl) (fun a c w h hl' => absurd hl' hl)

set_option maxRecDepth 100000 in
theorem contract (H : Type) (enc : TypeId × Value → H) (W : World) (base : Nat) (args : Array Value) (ds gs : List (DataW H)) (before : List MemPlace)
    (hval : ∀ (j : Nat) t v, Try.f4.params[j]? = some t → args[j]? = some v → Value.okWide Try.prog W .any base t v)
    (hW : DataW.Whole enc Try.prog Try.f4.params.toList Rows.fnExactPressClockSpec.vars false W args.toList ds gs before) :
    Calls Try.prog 4 args W fun e W' => ∃ v, e = .returned v ∧ Rows.fnExactPressClockSpec.post enc Try.prog Try.f4 false true false false W args v W' := by
  have hW' := hW
  obtain ⟨p, q, hA0, hV, rfl, hfz, hnd⟩ := hW
  have hA : DataW.TrodAll enc Try.prog W 0 (fun _ => true) true Try.f4.params.toList args.toList ds p := hA0
  rw [Try.params4] at hA hval
  obtain ⟨v0, vs0, d0, ds0, p0, q0, hargs, rfl, rfl, h0, r0⟩ := trodAll_cons hA
  obtain ⟨v1, vs1, d1, ds1, p1, q1, rfl, rfl, rfl, h1, r1⟩ := trodAll_cons r0
  obtain ⟨rfl, rfl, rfl⟩ := trodAll_nil r1
  obtain rfl : args = #[v0, v1] := by cases args; simp_all
  obtain ⟨k0, a0, c0, rfl, w0⟩ := arg_clock (hval 0 24 v0 rfl rfl) h0
  obtain ⟨a1, rfl, _, _, w1⟩ := open_int Try.underlying2 (hval 1 2 v1 rfl rfl) h1
  refine (walked k0 a0 c0 a1 W w0.1 w0.2).mono fun e W' ⟨he, hb⟩ => ?_
  subst he
  exact ⟨_, rfl, law_post hW' hb rfl rfl (by kernel_rfl) rfl⟩

set_option maxRecDepth 100000 in
theorem lifted (os : Os) (started : os.Started) (H : Type) (enc : TypeId × Value → H) :
    ReturnsInHanded {} Try.checked os 4 .any (Rows.fnExactPressClockSpec.pre6 enc Try.prog Try.f4 Rows.fnExactPressClockRow.domain false) (Rows.fnExactPressClockSpec.post enc Try.prog Try.f4 false true false false) := by
  refine returnsInHanded_of_change (C := Try.checked) (s := Rows.fnExactPressClockSpec) own started (by kernel_rfl) Try.func4
    (ChangeSpec.witness6 (enc := enc) (C := Try.checked) (s := Rows.fnExactPressClockSpec) false ⟨#[], #[.agg #[.slice none 0 0, .int .i64 0, .int .i64 0, .int .i64 0, .int .i64 0, .bool false, .bool false], .int .i64 0], []⟩ 8 (by kernel_rfl) (by kernel_rfl) (by kernel_rfl) (by kernel_rfl)) ?_
  intro W base args ds gs before hval hW _ _
  exact contract H enc W base args ds gs before hval hW

theorem proved : Rows.FnExactPressClockSaid :=
  OpenClaim.holds_of_wide 4 Try.f4 rfl rfl rfl rfl rfl rfl rfl ⟨rfl, rfl, rfl, rfl, rfl⟩ rfl rfl rfl rfl rfl (by kernel_rfl) Try.func4 (by kernel_rfl)
    (of_decide_eq_true (by kernel_rfl)) (by unfold Func.isWrapper; first | (rw [if_pos (by decide +kernel)]; kernel_rfl) | (rw [if_neg (by decide +kernel)]; exact ⟨rfl, rfl⟩))
    (fun os started H enc _ => lifted os started H enc)
end Go.Proofs.Ytdopdoniipppcaa.lPressClock
