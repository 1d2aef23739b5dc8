/- The law FnExactCountBehind returns true for every argument, and every argument reads afterwards as before. No conditions. -/
import Derived.Test.YtcgbbjlcijhcnaaCBeh
import Derived.Test.YtcgbbjlcijhcnaaPos3
namespace Go.Proofs.Ytcgbbjlcijhcnaa.lCountBehind
set_option linter.unusedSimpArgs false
set_option linter.unusedVariables false
set_option linter.unnecessarySimpa false
open Go.RowKit Go.ChangeShapes Go.WideShapes Go.ChangeAt Go.Joins
open Go.ChangeMaps (open_string)

set_option maxRecDepth 100000 in
theorem arg_ints {H : Type} {enc : TypeId × Value → H} {W : World} {base : Nat} {v : Value} {d : DataW H} {q : List MemPlace}
    (hval : Value.okWide Try.prog W .any base 24 v) (h : DataW.Trod enc Try.prog W 0 (fun _ => true) true 24 v d q) :
    ∃ (a : Option Addr) (c : Nat) (xs : List Int), v = .slice a xs.length c ∧ Ints W a xs ∧ xs.length ≤ maxLen := by
  obtain ⟨a0, len, cap, rfl⟩ := okWide_slice Try.underlying24 hval
  obtain ⟨fuel, hf⟩ := h
  obtain ⟨a, c, xs, hcs, hr, hm, _⟩ := open_slice_ints hf
  simp [Value.cells] at hcs
  obtain ⟨rfl, rfl, rfl⟩ := hcs
  exact ⟨_, _, xs, rfl, hr, hm⟩

set_option maxRecDepth 100000 in
set_option maxHeartbeats 16000000 in
theorem walk (r : R) (p : P) (ms : List Int) (pa sa ma : Option Addr) (pc sc mc : Nat) (d : Int) (w : World) (h : PRow w p pa sa) (hm : Ints w ma ms) (hm1 : p.pits.length ≤ maxLen) (hm2 : p.stores.length ≤ maxLen) (hm3 : ms.length ≤ maxLen) (v0 v1 : Int)
    (hs : ∀ (pa sa ma : Option Addr) (pc sc mc : Nat) (w : World), PRow w p pa sa → Ints w ma ms → p.pits.length ≤ 1048576 → p.stores.length ≤ 1048576 → ms.length ≤ 1048576 → p.pits.length ≤ pc → pc ≤ maxLen → Calls Try.prog 47 #[r.val, p.val pa pc sa sc, .slice ma ms.length mc, .int .i64 d] w fun e w' => e = .returned (.tuple #[.int .i64 v0, .int .i64 v1]) ∧ Below w.heap.size w w')
    (hi : ∀ (pa sa ma : Option Addr) (pc sc mc : Nat) (w : World), PRow w p pa sa → Ints w ma ms → p.pits.length ≤ 1048576 → p.stores.length ≤ 1048576 → ms.length ≤ 1048576 → p.pits.length ≤ pc → pc ≤ maxLen → Calls Try.prog 49 #[r.val, p.val pa pc sa sc, .slice ma ms.length mc, .int .i64 d] w fun e w' => e = .returned (.tuple #[.int .i64 v0, .int .i64 v1]) ∧ Below w.heap.size w w') :
    Calls Try.prog 13 #[r.val, p.val pa pc sa sc, .slice ma ms.length mc, .int .i64 d] w fun e w' => e = .returned (.bool true) ∧ Below w.heap.size w w' := by
  have HS := Lib.hid hs
  have HI := Lib.hid hi
  clear hs hi
  have F0 := ((Fr.start w).alloc r.cells 23).alloc (p.cells pa pc sa sc) 26
  go_enter Try.func13, Try.ntmps13
  by_cases hl0 : (ms.length : Int) > 1048576
  · go_wp2
    go_ret
    exact ⟨rfl, F0.below⟩
  have l3 : ms.length ≤ 1048576 := by omega
  go_wp2_with fail
  refine (szPosition_c p pa sa pc sc _ _ (by omega) (by omega) hm1 hm2).mono ?_
  rintro e w1 ⟨rfl, hb1⟩
  have F1 := F0.step hb1
  by_cases hl : szP 1048576 p < 0
  · go_wp2
    go_ret
    exact ⟨rfl, F1.below⟩
  obtain ⟨l1, l2⟩ := szP_len hl
  obtain ⟨c0, c1, c2, c3, c4, c5, c6, c7, c8⟩ := R.boxc (F1.at 1 rfl)
  obtain ⟨d0, d1, d2⟩ := P.boxc (F1.at 0 rfl)
  have zA : w.heap.size < w1.heap.size := F1.le 1 rfl
  have zB : w.heap.size + 1 < w1.heap.size := by have := F1.le 0 rfl; simp at this; omega
  (try simp only [World.size_alloc] at d0 d1 d2)
  clear hb1 F0
  go_wp2_with fail
  go_region_held3 (fun w' => ∀ b o, b < w1.heap.size → w'.cell? ⟨b, o, none⟩ = w1.cell? ⟨b, o, none⟩) (first | exact hcD | exact hcC | exact hcB | exact hcA | (intro b o h; rfl))
    (first
      | (go_at_call 48; refine (toInt64S_c ma mc ms _ (hm.below ((F1.drew.step hb2).step hb3).below (Nat.le_refl _)) l3).mono ?_; rintro e w4 ⟨rfl, ho4, hb4⟩; have hcC : ∀ b o, b < w1.heap.size → w4.cell? ⟨b, o, none⟩ = w1.cell? ⟨b, o, none⟩ := fun b o h => ((bcell hb4).1 b o (Nat.lt_of_lt_of_le h (Nat.le_trans hb2.size hb3.size))).trans (hcB b o h))
      | (go_at_call 18; refine (toPosition_c p pa sa pc sc _ (h.below (F1.drew.step hb2).below (Nat.le_refl _)) l1 l2).mono ?_; rintro e w3 ⟨qa3, qc3, ta3, tc3, rfl, ho3, hb3⟩; have hcB : ∀ b o, b < w1.heap.size → w3.cell? ⟨b, o, none⟩ = w1.cell? ⟨b, o, none⟩ := fun b o h => ((bcell hb3).1 b o (Nat.lt_of_lt_of_le h hb2.size)).trans (hcA b o h))
      | (go_at_call 17; refine (toRules_c r _).mono ?_; rintro e w2 ⟨rfl, hb2⟩; have hcA : ∀ b o, b < w1.heap.size → w2.cell? ⟨b, o, none⟩ = w1.cell? ⟨b, o, none⟩ := fun b o h => (bcell hb2).1 b o h)
      | (go_at_call 47; refine (HS.out qa3 ta3 _ qc3 tc3 _ _ (ho3.row.below hb4 (Nat.le_refl _)) (own_row ho4) l1 l2 l3 (own_caps ho3.pits).1 (own_caps ho3.pits).2).mono ?_; rintro e w5 ⟨rfl, hb5⟩; have hcD : ∀ b o, b < w1.heap.size → w5.cell? ⟨b, o, none⟩ = w1.cell? ⟨b, o, none⟩ := fun b o h => ((bcell hb5).1 b o (Nat.lt_of_lt_of_le h (Nat.le_trans (Nat.le_trans hb2.size hb3.size) hb4.size))).trans (hcC b o h)))
  have F5 := (((F1.drew.step hb2).step hb3).step hb4).step hb5
  clear hcA hcB hcC hcD hb2 hb3 hb4 hb5 ho3 ho4 F1 c0 c1 c2 c3 c4 c5 c6 c7 c8 d0 d1 d2 zA zB
  obtain ⟨d0, d1, d2⟩ := P.boxc (F5.at 0 rfl)
  have zB : w.heap.size + 1 < w5.heap.size := by have := F5.le 0 rfl; simp at this; omega
  (try simp only [World.size_alloc] at d0 d1 d2)
  go_wp2_with fail
  refine (toPosition_c p pa sa pc sc _ (h.below F5.below (Nat.le_refl _)) l1 l2).mono ?_
  rintro e w6 ⟨qa6, qc6, ta6, tc6, rfl, ho6, hb6⟩
  have F6 := ((F5.step hb6).pos ho6).alloc (p.cells qa6 qc6 ta6 tc6) 28
  have hcap := own_caps ho6.pits
  clear hb6 ho6 F5 d0 d1 d2 zB
  go_wp2_with fail
  refine (toInt64S_c ma mc ms _ (hm.below F6.below (Nat.le_refl _)) l3).mono ?_
  rintro e w7 ⟨rfl, ho7, hb7⟩
  have F7 := (F6.step hb7).own (c := ms.length) (xs := ms) ho7
  (try simp only [World.size_alloc] at F7)
  clear hb7 ho7 F6
  obtain ⟨c0, c1, c2, c3, c4, c5, c6, c7, c8⟩ := R.boxc (F7.at 4 rfl)
  obtain ⟨q0, q1, q2⟩ := P.boxc (F7.at 1 rfl)
  have zA : w.heap.size < w7.heap.size := F7.le 4 rfl
  have zB : w6.heap.size < w7.heap.size := F7.le 1 rfl
  go_wp2_with fail
  go_region_held3 (fun w' => ∀ b o, b < w7.heap.size → w'.cell? ⟨b, o, none⟩ = w7.cell? ⟨b, o, none⟩) (first | exact hcB | exact hcA | (intro b o h; rfl))
    (first
      | (go_at_call 49; refine (HI.out qa6 ta6 _ qc6 tc6 _ _ ((F7.drew.step hb8).at 2 rfl).1.row (own_row ((F7.drew.step hb8).at 0 rfl).1) l1 l2 l3 hcap.1 hcap.2).mono ?_; rintro e w9 ⟨rfl, hb9⟩; have hcB : ∀ b o, b < w7.heap.size → w9.cell? ⟨b, o, none⟩ = w7.cell? ⟨b, o, none⟩ := fun b o h => ((bcell hb9).1 b o (Nat.lt_of_lt_of_le h hb8.size)).trans (hcA b o h))
      | (go_at_call 17; refine (toRules_c r _).mono ?_; rintro e w8 ⟨rfl, hb8⟩; have hcA : ∀ b o, b < w7.heap.size → w8.cell? ⟨b, o, none⟩ = w7.cell? ⟨b, o, none⟩ := fun b o h => (bcell hb8).1 b o h))
  have F9 := (F7.drew.step hb8).step hb9
  clear hcA hcB hb8 hb9 F7 c0 c1 c2 c3 c4 c5 c6 c7 c8 q0 q1 q2 zA zB
  obtain ⟨q0, q1, q2⟩ := P.boxc (F9.at 1 rfl)
  obtain ⟨d0, d1, d2⟩ := P.boxc (F9.at 3 rfl)
  (try simp only [World.size_alloc] at d0 d1 d2)
  have zA : w.heap.size + 1 < w9.heap.size := by have := F9.le 3 rfl; simp at this; omega
  have zB : w6.heap.size < w9.heap.size := F9.le 1 rfl
  go_wp2_with fail
  go_region_held3 (fun w' => ∀ b o, b < w9.heap.size → w'.cell? ⟨b, o, none⟩ = w9.cell? ⟨b, o, none⟩) (first | exact hcB | exact hcA | (intro b o h; rfl))
    (first
      | (go_at_call 18; refine (toPosition_c p pa sa pc sc _ (h.below F9.drew.below (Nat.le_refl _)) l1 l2).mono ?_; rintro e w10 ⟨qa10, qc10, ta10, tc10, rfl, ho10, hb10⟩; have hcA : ∀ b o, b < w9.heap.size → w10.cell? ⟨b, o, none⟩ = w9.cell? ⟨b, o, none⟩ := fun b o h => (bcell hb10).1 b o h)
      | (go_at_call 20; refine (eqPosition_c p p qa6 ta6 qa10 ta10 qc6 tc6 qc10 tc10 _ ((F9.drew.step hb10).at 2 rfl).1.row ho10.row hm1 hm2 hm1 hm2).mono ?_; rintro e w11 ⟨rfl, hb11⟩; have hcB : ∀ b o, b < w9.heap.size → w11.cell? ⟨b, o, none⟩ = w9.cell? ⟨b, o, none⟩ := fun b o h => ((bcell hb11).1 b o (Nat.lt_of_lt_of_le h hb10.size)).trans (hcA b o h)))
  have F11 := (F9.drew.step hb10).step hb11
  clear hcA hcB hb10 hb11 ho10 F9 q0 q1 q2 d0 d1 d2 zA zB
  go_wp2_with fail
  refine (toInt64S_c ma mc ms _ (hm.below F11.below (Nat.le_refl _)) l3).mono ?_
  rintro e w12 ⟨rfl, ho12, hb12⟩
  have F12 := F11.step hb12
  have HO12 := Lib.hid (own_row ho12)
  clear hb12 ho12 F11
  go_wp2_with fail
  refine (eqInt64S_c _ _ _ _ ms ms _ (own_row (F12.at 0 rfl).1) HO12.out hm3 hm3).mono ?_
  rintro e w13 ⟨rfl, m13, hw13⟩
  have F13 := F12.step (show Below _ _ w13 from hw13 ▸ below_draws _ _ m13)
  clear F12 hw13
  go_wp2
  go_ret
  exact ⟨rfl, F13.below⟩

theorem walked (r : R) (p : P) (ms : List Int) (pa sa ma : Option Addr) (pc sc mc : Nat) (d : Int) (w : World) (h : PRow w p pa sa) (hm : Ints w ma ms) (hm1 : p.pits.length ≤ maxLen) (hm2 : p.stores.length ≤ maxLen) (hm3 : ms.length ≤ maxLen) :
    Calls Try.prog 13 #[r.val, p.val pa pc sa sc, .slice ma ms.length mc, .int .i64 d] w fun e w' => e = .returned (.bool true) ∧ Below w.heap.size w w' :=
  walk r p ms pa sa ma pc sc mc d w h hm hm1 hm2 hm3 (behP r p ms d).1 (behP r p ms d).2 (fun pa sa ma pc sc mc w h hm l1 l2 l3 hc hcm => sCountBehind_c r p ms d pa sa ma pc sc mc w h hm hm3 (by omega) (by omega) hc hcm) (fun pa sa ma pc sc mc w h hm l1 l2 l3 hc hcm => iCountBehind_c r p ms d pa sa ma pc sc mc w h hm hm3 (by omega) (by omega) hc hcm)

set_option maxRecDepth 100000 in
theorem contract (H : Type) (enc : TypeId × Value → H) (W : World) (base : Nat) (args : Array Value) (ds gs : List (DataW H)) (before : List MemPlace)
    (hval : ∀ (j : Nat) t v, Try.f13.params[j]? = some t → args[j]? = some v → Value.okWide Try.prog W .any base t v)
    (hW : DataW.Whole enc Try.prog Try.f13.params.toList Rows.fnExactCountBehindSpec.vars false W args.toList ds gs before) :
    Calls Try.prog 13 args W fun e W' => ∃ v, e = .returned v ∧ Rows.fnExactCountBehindSpec.post enc Try.prog Try.f13 false true false false W args v W' := by
  have hW' := hW
  obtain ⟨p, q, hA0, hV, rfl, hfz, hnd⟩ := hW
  have hA : DataW.TrodAll enc Try.prog W 0 (fun _ => true) true Try.f13.params.toList args.toList ds p := hA0
  rw [Try.params13] at hA hval
  obtain ⟨v0, vs0, d0, ds0, p0, q0, hargs, rfl, rfl, h0, r0⟩ := trodAll_cons hA
  obtain ⟨v1, vs1, d1, ds1, p1, q1, rfl, rfl, rfl, h1, r1⟩ := trodAll_cons r0
  obtain ⟨v2, vs2, d2, ds2, p2, q2, rfl, rfl, rfl, h2, r2⟩ := trodAll_cons r1
  obtain ⟨v3, vs3, d3, ds3, p3, q3, rfl, rfl, rfl, h3, r3⟩ := trodAll_cons r2
  obtain ⟨rfl, rfl, rfl⟩ := trodAll_nil r3
  obtain rfl : args = #[v0, v1, v2, v3] := by cases args; simp_all
  obtain ⟨a0, rfl, w0⟩ := arg_rules (hval 0 23 v0 rfl rfl) h0
  obtain ⟨p1p, pa1, pc1, sa1, sc1, rfl, w1⟩ := arg_pos (hval 1 26 v1 rfl rfl) h1
  obtain ⟨ma2, mc2, xs2, rfl, w2⟩ := arg_ints (hval 2 24 v2 rfl rfl) h2
  obtain ⟨a3, rfl, _, _, w3⟩ := open_int Try.underlying2 (hval 3 2 v3 rfl rfl) h3
  refine (walked a0 p1p xs2 pa1 sa1 ma2 pc1 sc1 mc2 a3 W w1.1 w2.1 w1.2.1 w1.2.2.1 w2.2).mono fun e W' ⟨he, hb⟩ => ?_
  subst he
  exact ⟨_, rfl, law_post hW' hb rfl rfl (by kernel_rfl) rfl⟩

set_option maxRecDepth 100000 in
theorem lifted (os : Os) (started : os.Started) (H : Type) (enc : TypeId × Value → H) :
    ReturnsInHanded {} Try.checked os 13 .any (Rows.fnExactCountBehindSpec.pre6 enc Try.prog Try.f13 Rows.fnExactCountBehindRow.domain false) (Rows.fnExactCountBehindSpec.post enc Try.prog Try.f13 false true false false) := by
  refine returnsInHanded_of_change (C := Try.checked) (s := Rows.fnExactCountBehindSpec) own started (by kernel_rfl) Try.func13
    (ChangeSpec.witness6 (enc := enc) (C := Try.checked) (s := Rows.fnExactCountBehindSpec) false ⟨#[], #[.agg #[.int .i64 0, .int .i64 0, .bool false, .bool false, .bool false, .bool false, .bool false, .int .i64 0, .int .i64 0], .agg #[.slice none 0 0, .slice none 0 0, .int .i64 0], .slice none 0 0, .int .i64 0], []⟩ 8 (by kernel_rfl) (by kernel_rfl) (by kernel_rfl) (by kernel_rfl)) ?_
  intro W base args ds gs before hval hW _ _
  exact contract H enc W base args ds gs before hval hW

theorem proved : Rows.FnExactCountBehindSaid :=
  OpenClaim.holds_of_wide 13 Try.f13 rfl rfl rfl rfl rfl rfl rfl ⟨rfl, rfl, rfl, rfl, rfl⟩ rfl rfl rfl rfl rfl (by kernel_rfl) Try.func13 (by kernel_rfl)
    (of_decide_eq_true (by kernel_rfl)) (by unfold Func.isWrapper; first | (rw [if_pos (by decide +kernel)]; kernel_rfl) | (rw [if_neg (by decide +kernel)]; exact ⟨rfl, rfl⟩))
    (fun os started H enc _ => lifted os started H enc)
end Go.Proofs.Ytcgbbjlcijhcnaa.lCountBehind
