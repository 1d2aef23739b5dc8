/- The law FnExactSamePart returns true for every argument, and every argument reads afterwards as before. No conditions. -/
import Derived.Test.YtbjdfgfebepacaaPartA
import Derived.Deep.RegionHeld3
namespace Go.Proofs.Ytbjdfgfebepacaa.lSamePart
set_option linter.unusedSimpArgs false
set_option linter.unusedVariables false
set_option linter.unnecessarySimpa false
open Go.RowKit Go.ChangeShapes Go.WideShapes Go.ChangeAt Go.Joins
open Go.ChangeMaps (open_string)

theorem small_max {x : Pt} (h : x.ents.length ≤ 1048576 ∧ ∀ e ∈ x.ents, e.1.quiet.length ≤ 1048576) : x.Small 1048576 := h
theorem small_of {x : Pt} {l : List (Kn × KA)} (h : x.Small 1048576) (hl : l.map Prod.fst = x.ents.map Prod.fst) : (Pt.mk x.from_ l).Small 1048576 := by
  refine ⟨?_, fun e he => ?_⟩
  · have := congrArg List.length hl
    have h1 := h.1
    simp at this
    show l.length ≤ _
    omega
  · have he : e.1 ∈ l.map Prod.fst := List.mem_map.2 ⟨e, he, rfl⟩
    rw [hl] at he
    obtain ⟨f, hf, e1⟩ := List.mem_map.1 he
    rw [← e1]
    exact h.2 f hf
theorem lies {lo hi : Nat} {a : Option Addr} {l : List (Kn × KA)} {w w' : World} (h : KLies lo hi a l w) (hh : hi ≤ w.heap.size) (hb : Below w.heap.size w w') : KRows w' a l := h w' (fun k _ h2 => hb.block k (by omega))
theorem sameK_of {x y x' y' : Pt} (h1 : x.Same x') (h2 : y.Same y') : sameK x y = sameK x' y' := by
  unfold sameK
  obtain ⟨a, b⟩ := h1
  obtain ⟨c, d⟩ := h2
  exact decide_eq_decide.2 (by unfold Pt.Same; rw [a, b, c, d])

set_option maxRecDepth 100000 in
set_option maxHeartbeats 8000000 in
theorem walk (x y : Pt) (k l : Option Addr) (kc lc : Nat) (w : World) (hx : KRows w k x.ents) (hy : KRows w l y.ents) (m1 : x.Small maxLen) (m2 : y.Small maxLen) :
    Calls Try.prog 4 #[x.val k kc, y.val l lc] w fun e w' => e = .returned (.bool true) ∧ Below w.heap.size w w' := by
  have HX := Lib.hid hx
  have HY := Lib.hid hy
  have M1 := Lib.hid m1
  have M2 := Lib.hid m2
  clear hx hy m1 m2
  go_enter Try.func4, Try.ntmps4
  go_wp2_with fail
  refine (szPart_c x k kc _ _ (HX.out.below (below_alloc2 _ _ _) (Nat.le_refl _)) (by omega) (by omega) M1.out).mono ?_
  rintro e w1 ⟨v1, rfl, u1, q1, hb1⟩
  have HQ1 := Lib.hid q1
  have hW0 : Below w.heap.size w ((w.alloc (.cells (x.cells k kc) 43)).alloc (.cells (y.cells l lc) 43)) := below_alloc2 _ _ _
  have HW0 := Lib.hid hW0
  have HB1 := Lib.hid hb1
  obtain ⟨hc1, hf1⟩ := bcell hb1
  simp only [World.size_alloc] at hc1 hf1
  clear hb1 hW0 q1
  by_cases hl1 : v1 < 0
  · go_wp2
    go_ret
    exact ⟨rfl, HW0.out.trans (HB1.out.mono (by simp <;> omega))⟩
  have S1 := Lib.hid (small_max (HQ1.out (by omega)))
  go_wp2_with fail
  refine (szPart_c y l lc _ _ (HY.out.below (HW0.out.trans (HB1.out.mono (by simp <;> omega))) (Nat.le_refl _)) (by omega) (by omega) M2.out).mono ?_
  rintro e w2 ⟨v2, rfl, u2, q2, hb2⟩
  have HQ2 := Lib.hid q2
  have HB2 := Lib.hid (below_next HB1.out hb2)
  have hc2 := (bcell HB2.out).1
  simp only [World.size_alloc] at hc2
  clear hc1 hf1 hb2 q2 HB1
  by_cases hl2 : v2 < 0
  · go_wp2
    go_ret
    exact ⟨rfl, HW0.out.trans (HB2.out.mono (by simp <;> omega))⟩
  have S2 := Lib.hid (small_max (HQ2.out (by omega)))
  have HWB : Hid (∀ W, Below ((w.alloc (.cells (x.cells k kc) 43)).alloc (.cells (y.cells l lc) 43)).heap.size ((w.alloc (.cells (x.cells k kc) 43)).alloc (.cells (y.cells l lc) 43)) W → Below w.heap.size w W) := fun W h => HW0.out.trans (h.mono (by simp <;> omega))
  clear HQ1 HQ2 u1 u2 HW0
  go_wp2_with fail
  go_region_held3 (fun w' => ∀ b o, b < w.heap.size + 1 + 1 → w'.cell? ⟨b, o, none⟩ = ((w.alloc (.cells (x.cells k kc) 43)).alloc (.cells (y.cells l lc) 43)).cell? ⟨b, o, none⟩) (first | exact hc2 | exact hcA | exact hcB | exact hcC)
    (first
      | (go_at_call 26; refine (toPart_c y l lc _ (HY.out.below (HWB.out _ HB3.out) (Nat.le_refl _)) S2.out).mono ?_; rintro e w4 ⟨l4, a4, c4, e4, rfl, ho4, hb4⟩; have HO4 := Lib.hid ho4; have HE4 := Lib.hid e4; have HB34 := Lib.hid hb4; have HB4 := Lib.hid (below_next HB3.out hb4); have hcB := (bcell HB4.out).1; simp only [World.size_alloc] at hcB; clear ho4 hb4 e4)
      | (go_at_call 26; refine (toPart_c x k kc _ (HX.out.below (HWB.out _ HB2.out.drew) (Nat.le_refl _)) S1.out).mono ?_; rintro e w3 ⟨l3, a3, c3, e3, rfl, ho3, hb3⟩; have HO3 := Lib.hid ho3; have HE3 := Lib.hid e3; have HB3 := Lib.hid (below_next HB2.out.drew hb3); have hcA := (bcell HB3.out).1; simp only [World.size_alloc] at hcA; clear ho3 hb3 e3)
      | (go_at_call 25; refine (sSamePart_c ⟨x.from_, l3⟩ ⟨y.from_, l4⟩ a3 a4 c3 c4 _ (lies HO3.out (Nat.le_refl _) HB34.out) (HO4.out _ (fun _ _ _ => rfl)) (small_of S1.out HE3.out) (small_of S2.out HE4.out)).mono ?_; rintro e w5 ⟨rfl, hb5⟩; have HB5 := Lib.hid (below_next HB4.out hb5); have hcC := (bcell HB5.out).1; simp only [World.size_alloc] at hcC; clear hb5))
  obtain ⟨z, hz⟩ : ∃ z, z = sameK x y := ⟨_, rfl⟩
  have hz1 : sameK ⟨x.from_, l3⟩ ⟨y.from_, l4⟩ = z := by rw [hz]; exact sameK_of ⟨rfl, HE3.out⟩ ⟨rfl, HE4.out⟩
  rw [hz1]
  have HZ := Lib.hid hz
  clear hz hz1 hcA hcB hc2 HO3 HO4 HE3 HE4 HB34 HB2 HB3 HB4
  go_wp2_with fail
  refine (toPart_c x k kc _ (HX.out.below (HWB.out _ HB5.out) (Nat.le_refl _)) S1.out).mono ?_
  rintro e w6 ⟨l6, a6, c6, e6, rfl, ho6, hb6⟩
  have HO6 := Lib.hid ho6
  have HE6 := Lib.hid e6
  have HB6 := Lib.hid (below_next HB5.out hb6)
  have hcD := (bcell HB6.out).1
  simp only [World.size_alloc] at hcD
  have hy6 : w.heap.size + 1 < w6.heap.size := by have := HB6.out.size; simp at this; omega
  have hz6 : w.heap.size < w6.heap.size := by omega
  clear hcC ho6 hb6 e6 HB5
  go_wp2_with fail
  have HW6 := Lib.hid (HWB.out _ HB6.out)
  refine (toPart_c y l lc _ (HY.out.below (HW6.out.alloc (by omega) _) (Nat.le_refl _)) S2.out).mono ?_
  rintro e w7 ⟨l7, a7, c7, e7, rfl, ho7, hb7⟩
  have HW7 := Lib.hid (below_next (HW6.out.alloc (by omega) _) hb7)
  have hcE := (bcell hb7).1
  simp only [World.size_alloc] at hcE
  have s7 : w6.heap.size < w7.heap.size := by have := hb7.size; simp at this; omega
  have s7a : w.heap.size + 1 < w7.heap.size := by omega
  have s7b : w.heap.size < w7.heap.size := by omega
  have R6 : Hid (∀ W, Below w7.heap.size w7 W → KRows W a6 l6) := fun W h => HO6.out W (fun q _ q2 => (h.block q (by omega)).trans ((hb7.block q (by simp; omega)).trans ((below_alloc1 w6 _).block q q2)))
  have R7 : Hid (∀ W, Below w7.heap.size w7 W → KRows W a7 l7) := fun W h => lies ho7 (Nat.le_refl _) h
  have HE7 := Lib.hid e7
  clear ho7 hb7 HO6 e7 HB6 HWB
  go_wp2_with fail
  have HC8 := Lib.hid (fun W h1 h2 => iSamePart_c ⟨x.from_, l6⟩ ⟨y.from_, l7⟩ a6 a7 c6 c7 W h1 h2 (small_of S1.out HE6.out) (small_of S2.out HE7.out))
  have hz2 : sameK ⟨x.from_, l6⟩ ⟨y.from_, l7⟩ = z := by rw [HZ.out]; exact sameK_of ⟨rfl, HE6.out⟩ ⟨rfl, HE7.out⟩
  rw [hz2] at HC8
  clear hz2
  refine (HC8.out _ (R6.out _ (below_alloc1 _ _)) (R7.out _ (below_alloc1 _ _))).mono ?_
  rintro e w8 ⟨rfl, hb8⟩
  have HW8 : Hid (Below w.heap.size w w8) := below_next (HW7.out.alloc (by omega) _) hb8
  have h78 : Hid (Below w7.heap.size w7 w8) := (below_alloc1 w7 _).trans (hb8.mono (by simp))
  have hcF := (bcell hb8).1
  simp only [World.size_alloc] at hcF
  have s8 : w7.heap.size < w8.heap.size := by have := hb8.size; simp at this; omega
  have s8c : w6.heap.size < w8.heap.size := by omega
  have s8a : w.heap.size + 1 < w8.heap.size := by omega
  have s8b : w.heap.size < w8.heap.size := by omega
  have P6 : (Pt.mk x.from_ l6).Same x := ⟨rfl, HE6.out⟩
  have P7 : (Pt.mk y.from_ l7).Same y := ⟨rfl, HE7.out⟩
  have P6 := Lib.hid P6
  have P7 := Lib.hid P7
  clear hb8 HC8
  go_wp2_with fail
  have q7 := Lib.hid hcF
  go_region_held3 (fun w' => ∀ b o, b < w7.heap.size + 1 → w'.cell? ⟨b, o, none⟩ = (w7.alloc (.cells ((Pt.mk y.from_ l7).cells a7 c7) 48)).cell? ⟨b, o, none⟩) (first | exact hcF | exact hcG | exact hcH)
    (first
      | (go_at_call 26; refine (toPart_c x k kc _ (HX.out.below HW8.out.drew (Nat.le_refl _)) S1.out).mono ?_; rintro e w9 ⟨l9, a9, c9, e9, rfl, ho9, hb9⟩; have HB89 := Lib.hid hb9; have HO9 := Lib.hid ho9; have HE9 := Lib.hid e9; have hcG : ∀ b o, b < w7.heap.size + 1 → w9.cell? ⟨b, o, none⟩ = (w7.alloc (.cells ((Pt.mk y.from_ l7).cells a7 c7) 48)).cell? ⟨b, o, none⟩ := fun b o h => ((bcell hb9).1 b o (by simp; omega)).trans (q7.out b o h); clear hb9 ho9 e9)
      | (go_at_call 28; refine (eqPart_c ⟨x.from_, l6⟩ ⟨x.from_, l9⟩ a6 a9 c6 c9 _ (R6.out _ (h78.out.trans ((Below.refl _ _).drew.trans (HB89.out.mono (by simp; omega))))) (HO9.out _ (fun _ _ _ => rfl)) ⟨rfl, HE6.out.trans HE9.out.symm⟩ (small_of S1.out HE6.out)).mono ?_; rintro e w10 ⟨rfl, hb10⟩; have HB910 := Lib.hid hb10; have hcH : ∀ b o, b < w7.heap.size + 1 → w10.cell? ⟨b, o, none⟩ = (w7.alloc (.cells ((Pt.mk y.from_ l7).cells a7 c7) 48)).cell? ⟨b, o, none⟩ := fun b o h => ((bcell hb10).1 b o (by have := HB89.out.size; simp at this; omega)).trans (hcG b o h); clear hb10))
  go_wp2_with fail
  have q10 := Lib.hid hcH
  have HW9 := Lib.hid (below_next HW8.out.drew HB89.out)
  have HW10 := Lib.hid (below_next HW9.out HB910.out)
  have s10 : w7.heap.size < w10.heap.size := by have := HB910.out.size; have := HB89.out.size; simp at *; omega
  have h710 : Hid (Below w7.heap.size w7 w10) := h78.out.trans ((Below.refl _ _).drew.trans ((HB89.out.mono (by simp; omega)).trans (HB910.out.mono (by have := HB89.out.size; simp at this; omega))))
  clear hcG hcF q7 s8 s8a s8b s8c HW8 HW9 HO9 HE9 HB89 HB910 h78 R6
  go_region_held3 (fun w' => ∀ b o, b < w7.heap.size + 1 → w'.cell? ⟨b, o, none⟩ = (w7.alloc (.cells ((Pt.mk y.from_ l7).cells a7 c7) 48)).cell? ⟨b, o, none⟩) (first | exact hcH | exact hcI | exact hcJ)
    (first
      | (go_at_call 26; refine (toPart_c y l lc _ (HY.out.below HW10.out.drew (Nat.le_refl _)) S2.out).mono ?_; rintro e w11 ⟨l11, a11, c11, e11, rfl, ho11, hb11⟩; have HB11 := Lib.hid hb11; have HO11 := Lib.hid ho11; have HE11 := Lib.hid e11; have hcI : ∀ b o, b < w7.heap.size + 1 → w11.cell? ⟨b, o, none⟩ = (w7.alloc (.cells ((Pt.mk y.from_ l7).cells a7 c7) 48)).cell? ⟨b, o, none⟩ := fun b o h => ((bcell hb11).1 b o (by simp; omega)).trans (q10.out b o h); clear hb11 ho11 e11)
      | (go_at_call 28; refine (eqPart_c ⟨y.from_, l7⟩ ⟨y.from_, l11⟩ a7 a11 c7 c11 _ (R7.out _ (h710.out.trans ((Below.refl _ _).drew.trans (HB11.out.mono (by simp; omega))))) (HO11.out _ (fun _ _ _ => rfl)) ⟨rfl, HE7.out.trans HE11.out.symm⟩ (small_of S2.out HE7.out)).mono ?_; rintro e w12 ⟨rfl, hb12⟩; have HB12 := Lib.hid hb12; have hcJ : ∀ b o, b < w7.heap.size + 1 → w12.cell? ⟨b, o, none⟩ = (w7.alloc (.cells ((Pt.mk y.from_ l7).cells a7 c7) 48)).cell? ⟨b, o, none⟩ := fun b o h => ((bcell hb12).1 b o (by have := HB11.out.size; simp at this; omega)).trans (hcI b o h); clear hb12))
  go_wp2
  go_ret
  exact ⟨rfl, below_next (below_next HW10.out.drew HB11.out) HB12.out⟩
set_option maxRecDepth 100000 in
theorem contract (H : Type) (enc : TypeId × Value → H) (W : World) (base : Nat) (args : Array Value) (ds gs : List (DataW H)) (before : List MemPlace)
    (hval : ∀ (j : Nat) t v, Try.f4.params[j]? = some t → args[j]? = some v → Value.okWide Try.prog W .any base t v)
    (hW : DataW.Whole enc Try.prog Try.f4.params.toList Rows.fnExactSamePartSpec.vars false W args.toList ds gs before) :
    Calls Try.prog 4 args W fun e W' => ∃ v, e = .returned v ∧ Rows.fnExactSamePartSpec.post enc Try.prog Try.f4 false true false false W args v W' := by
  have hW' := hW
  obtain ⟨p, q, hA0, hV, rfl, hfz, hnd⟩ := hW
  have hA : DataW.TrodAll enc Try.prog W 0 (fun _ => true) true Try.f4.params.toList args.toList ds p := hA0
  rw [Try.params4] at hA hval
  obtain ⟨v0, vs0, d0, ds0, p0, q0, hargs, rfl, rfl, h0, r0⟩ := trodAll_cons hA
  obtain ⟨v1, vs1, d1, ds1, p1, q1, rfl, rfl, rfl, h1, r1⟩ := trodAll_cons r0
  obtain ⟨rfl, rfl, rfl⟩ := trodAll_nil r1
  obtain rfl : args = #[v0, v1] := by cases args; simp_all
  obtain ⟨a0, pa0, pc0, rfl, w0⟩ := arg_part (hval 0 43 v0 rfl rfl) h0
  obtain ⟨a1, pa1, pc1, rfl, w1⟩ := arg_part (hval 1 43 v1 rfl rfl) h1
  refine (walk a0 a1 pa0 pa1 pc0 pc1 W w0.1 w1.1 w0.2 w1.2).mono fun e W' ⟨he, hb⟩ => ?_
  subst he
  exact ⟨_, rfl, law_post hW' hb rfl rfl (by kernel_rfl) rfl⟩

set_option maxRecDepth 100000 in
theorem lifted (os : Os) (started : os.Started) (H : Type) (enc : TypeId × Value → H) :
    ReturnsInHanded {} Try.checked os 4 .any (Rows.fnExactSamePartSpec.pre6 enc Try.prog Try.f4 Rows.fnExactSamePartRow.domain false) (Rows.fnExactSamePartSpec.post enc Try.prog Try.f4 false true false false) := by
  refine returnsInHanded_of_change (C := Try.checked) (s := Rows.fnExactSamePartSpec) own started (by kernel_rfl) Try.func4
    (ChangeSpec.witness6 (enc := enc) (C := Try.checked) (s := Rows.fnExactSamePartSpec) false ⟨#[], #[.agg #[.int .i64 0, .slice none 0 0], .agg #[.int .i64 0, .slice none 0 0]], []⟩ 8 (by kernel_rfl) (by kernel_rfl) (by kernel_rfl) (by kernel_rfl)) ?_
  intro W base args ds gs before hval hW _ _
  exact contract H enc W base args ds gs before hval hW

theorem proved : Rows.FnExactSamePartSaid :=
  OpenClaim.holds_of_wide 4 Try.f4 rfl rfl rfl rfl rfl rfl rfl ⟨rfl, rfl, rfl, rfl, rfl⟩ rfl rfl rfl rfl rfl (by kernel_rfl) Try.func4 (by kernel_rfl)
    (of_decide_eq_true (by kernel_rfl)) (by unfold Func.isWrapper; first | (rw [if_pos (by decide +kernel)]; kernel_rfl) | (rw [if_neg (by decide +kernel)]; exact ⟨rfl, rfl⟩))
    (fun os started H enc _ => lifted os started H enc)
end Go.Proofs.Ytbjdfgfebepacaa.lSamePart
