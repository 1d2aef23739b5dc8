/- The law FnLaps returns true for every argument, and every argument reads afterwards as before. No conditions. -/
import Derived.Test.YteabheocbkcmnaaLapsP
import Derived.Test.YteabheocbkcmnaaDraw2
namespace Go.Proofs.Yteabheocbkcmnaa.lLaps
set_option linter.unusedSimpArgs false
set_option linter.unusedVariables false
set_option linter.unnecessarySimpa false
open Go.RowKit Go.ChangeShapes Go.WideShapes Go.ChangeAt Go.Joins
open Go.ChangeMaps (open_string)

set_option maxRecDepth 100000 in
set_option maxHeartbeats 16000000 in
theorem walk (ca da : Option Addr) (cc dc : Nat) (bs ds : List Int) (w : World) (hm1 : bs.length ≤ maxLen) (hm2 : ds.length ≤ maxLen) (hb : bs.length ≤ 3000 → ByteP w.heap.size ca bs w) (hd : ds.length ≤ 3000 → ByteP w.heap.size da ds w) :
    Calls Try.prog 11 #[.slice ca bs.length cc, .slice da ds.length dc] w fun e w' => e = .returned (.bool true) ∧ Below w.heap.size w w' := by
  by_cases hl : 3000 < (bs.length : Int) ∨ 3000 < (ds.length : Int)
  · have HL : (decide (3000 < (bs.length : Int)) || decide (3000 < (ds.length : Int))) = true := by simpa using hl
    clear hb hd hl
    go_enter Try.func11, Try.ntmps11
    go_wp2_with fail
    refine (a2Long_c ca da _ _ cc dc _ hm1 hm2).mono ?_
    rintro e w1 ⟨rfl, rfl⟩
    rw [HL]
    go_wp2
    go_ret
    exact ⟨rfl, Below.refl _ _⟩
  have HB := Lib.hid (hb (by omega))
  have HD := Lib.hid (hd (by omega))
  have HL : (decide (3000 < (bs.length : Int)) || decide (3000 < (ds.length : Int))) = false := by simp; omega
  clear hb hd hl
  go_enter Try.func11, Try.ntmps11
  go_wp2_with fail
  refine (a2Long_c ca da _ _ cc dc _ hm1 hm2).mono ?_
  rintro e w1 ⟨rfl, rfl⟩
  rw [HL]
  clear hm1 hm2 HL
  go_wp2_with fail
  refine (A2Rules_c ca cc bs _ HB.out).mono ?_
  rintro e w2 ⟨r, rfl, hdr, hb2⟩
  obtain ⟨hok, h6, _⟩ := hdr
  have B2 := hb2.alloc hb2.size (.cells r.cells 24)
  have F2 := (Fr.start w2).alloc r.cells 24
  obtain ⟨⟨hlo, hhi⟩, _⟩ := R.ok_iff.1 hok
  have HOK := Lib.hid hok
  have HD2 := Lib.hid (HD.out.keep (fun k hk => B2.block k hk))
  clear hok hb2 HD HB
  go_wp2_with fail
  refine (LapLength_c r HOK.out _).mono ?_
  rintro e w3 ⟨rfl, hb3⟩
  have F3 := F2.step hb3
  have B3 := Lib.hid (below_next B2 hb3)
  have HD3 := Lib.hid (HD2.out.keep (fun k hk => hb3.block k (by have := B2.size; simp only [World.size_alloc] at this ⊢; omega)))
  obtain ⟨c0, c1, c2, c3, c4, c5, c6, c7, c8⟩ := R.boxc (F3.at 0 rfl)
  clear hb3 F2 HD2 B2
  go_wp2_with fail
  refine (a2At_c w.heap.size da dc ds 0 r.pits _ HD3.out (by omega) (by omega) (by omega) (by omega)).mono ?_
  rintro e w4 ⟨mv, rfl, m0, m1, rfl⟩
  go_wp2_with fail
  refine (a2At_c w.heap.size da dc ds 1 2 _ HD3.out (by omega) (by omega) (by omega) (by omega)).mono ?_
  rintro e w4 ⟨pl, rfl, p0, p1, rfl⟩
  go_wp2_with fail
  refine (a2At_c w.heap.size da dc ds 2 60 _ HD3.out (by omega) (by omega) (by omega) (by omega)).mono ?_
  rintro e w4 ⟨sd, rfl, s0, s1, rfl⟩
  obtain ⟨xa, xc, xd, L1, L2, L3, L4, hsk, l0, l1⟩ := laps_hold r HOK.out h6 pl mv (1 + sd) p0 (by omega) m0 m1 (by omega) (by omega)
  obtain ⟨n, hn⟩ : ∃ n, n = lapLen r := ⟨_, rfl⟩
  rw [← hn] at L2 L3 l0 l1
  rw [← hn]
  have M1 := Lib.hid (iLastPlace_c r pl mv (1 + sd))
  have M2 := Lib.hid (iLastPlace_c r pl mv (1 + sd + n))
  have M3 := Lib.hid (iLastPlace_c r pl mv n)
  have M4 := Lib.hid (iLastPlace_c r pl mv 1)
  rw [L1] at M1
  rw [L2] at M2
  rw [L3] at M3
  rw [L4] at M4
  have HSK := Lib.hid hsk
  have hpp : 0 ≤ pl * r.pits ∧ pl * r.pits ≤ 8 := by
    have : pl = 0 ∨ pl = 1 := by omega
    rcases this with rfl | rfl <;> omega
  clear hn L1 L2 L3 L4 HD3 hsk
  go_wp2_with fail
  refine (M1.out _).mono ?_
  rintro e w5 ⟨rfl, hb5⟩
  have F5 := F3.step hb5
  have B5 := Lib.hid (below_next B3.out hb5)
  clear c0 c1 c2 c3 c4 c5 c6 c7 c8 hb5 F3 B3
  obtain ⟨c0, c1, c2, c3, c4, c5, c6, c7, c8⟩ := R.boxc (F5.at 0 rfl)
  go_wp2_with fail
  refine (M2.out _).mono ?_
  rintro e w6 ⟨rfl, hb6⟩
  have F6 := F5.step hb6
  have B6 := Lib.hid (below_next B5.out hb6)
  clear c0 c1 c2 c3 c4 c5 c6 c7 c8 hb6 F5 B5
  obtain ⟨c0, c1, c2, c3, c4, c5, c6, c7, c8⟩ := R.boxc (F6.at 0 rfl)
  go_wp2_with fail
  refine (M3.out _).mono ?_
  rintro e w7 ⟨rfl, hb7⟩
  have F7 := F6.step hb7
  have B7 := Lib.hid (below_next B6.out hb7)
  clear c0 c1 c2 c3 c4 c5 c6 c7 c8 hb7 F6 B6
  obtain ⟨c0, c1, c2, c3, c4, c5, c6, c7, c8⟩ := R.boxc (F7.at 0 rfl)
  go_wp2_with fail
  refine (M4.out _).mono ?_
  rintro e w8 ⟨rfl, hb8⟩
  have F8 := F7.step hb8
  have B8 := Lib.hid (below_next B7.out hb8)
  clear c0 c1 c2 c3 c4 c5 c6 c7 c8 hb8 F7 B7
  obtain ⟨c0, c1, c2, c3, c4, c5, c6, c7, c8⟩ := R.boxc (F8.at 0 rfl)
  cases hs : r.skip
  · obtain ⟨e1, e2⟩ := HSK.out hs
    rw [hs] at c3
    have e3 : (xc == pl * r.pits + mv) = true := by simp [e1]
    have e4 : (xd != xc) = true := by simp [e2]
    clear e1 e2 HSK
    go_wp2
    go_ret
    exact ⟨rfl, B8.out⟩
  · rw [hs] at c3
    go_wp2
    go_ret
    exact ⟨rfl, B8.out⟩

set_option maxRecDepth 100000 in
theorem contract (H : Type) (enc : TypeId × Value → H) (W : World) (base : Nat) (args : Array Value) (ds gs : List (DataW H)) (before : List MemPlace)
    (hval : ∀ (j : Nat) t v, Try.f11.params[j]? = some t → args[j]? = some v → Value.okWide Try.prog W .any base t v)
    (hW : DataW.Whole enc Try.prog Try.f11.params.toList Rows.fnLapsSpec.vars false W args.toList ds gs before) :
    Calls Try.prog 11 args W fun e W' => ∃ v, e = .returned v ∧ Rows.fnLapsSpec.post enc Try.prog Try.f11 false true false false W args v W' := by
  have hW' := hW
  obtain ⟨p, q, hA0, hV, rfl, hfz, hnd⟩ := hW
  have hA : DataW.TrodAll enc Try.prog W 0 (fun _ => true) true Try.f11.params.toList args.toList ds p := hA0
  rw [Try.params11] at hA hval
  obtain ⟨v0, vs0, d0, ds0, p0, q0, hargs, rfl, rfl, h0, r0⟩ := trodAll_cons hA
  obtain ⟨v1, vs1, d1, ds1, p1, q1, rfl, rfl, rfl, h1, r1⟩ := trodAll_cons r0
  obtain ⟨rfl, rfl, rfl⟩ := trodAll_nil r1
  obtain rfl : args = #[v0, v1] := by cases args; simp_all
  obtain ⟨ba0, bc0, bs0, rfl, w0⟩ := arg_bytes (hval 0 55 v0 rfl rfl) h0
  obtain ⟨ba1, bc1, bs1, rfl, w1⟩ := arg_bytes (hval 1 55 v1 rfl rfl) h1
  refine (walk ba0 ba1 bc0 bc1 bs0 bs1 W w0.2.1 w1.2.1 w0.2.2.2 w1.2.2.2).mono fun e W' ⟨he, hb⟩ => ?_
  subst he
  exact ⟨_, rfl, law_post hW' hb rfl rfl (by kernel_rfl) rfl⟩

set_option maxRecDepth 100000 in
theorem lifted (os : Os) (started : os.Started) (H : Type) (enc : TypeId × Value → H) :
    ReturnsInHanded {} Try.checked os 11 .any (Rows.fnLapsSpec.pre6 enc Try.prog Try.f11 Rows.fnLapsRow.domain false) (Rows.fnLapsSpec.post enc Try.prog Try.f11 false true false false) := by
  refine returnsInHanded_of_change (C := Try.checked) (s := Rows.fnLapsSpec) own started (by kernel_rfl) Try.func11
    (ChangeSpec.witness6 (enc := enc) (C := Try.checked) (s := Rows.fnLapsSpec) false ⟨#[], #[.slice none 0 0, .slice none 0 0], []⟩ 8 (by kernel_rfl) (by kernel_rfl) (by kernel_rfl) (by kernel_rfl)) ?_
  intro W base args ds gs before hval hW _ _
  exact contract H enc W base args ds gs before hval hW

theorem proved : Rows.FnLapsSaid :=
  OpenClaim.holds_of_wide 11 Try.f11 rfl rfl rfl rfl rfl rfl rfl ⟨rfl, rfl, rfl, rfl, rfl⟩ rfl rfl rfl rfl rfl (by kernel_rfl) Try.func11 (by kernel_rfl)
    (of_decide_eq_true (by kernel_rfl)) (by unfold Func.isWrapper; first | (rw [if_pos (by decide +kernel)]; kernel_rfl) | (rw [if_neg (by decide +kernel)]; exact ⟨rfl, rfl⟩))
    (fun os started H enc _ => lifted os started H enc)
end Go.Proofs.Yteabheocbkcmnaa.lLaps
