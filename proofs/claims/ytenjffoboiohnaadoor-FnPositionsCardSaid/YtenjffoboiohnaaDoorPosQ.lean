/- PosQ: a position read from its own text. Each contract holds for every argument, under the premises that it states. -/
import Derived.Test.YtenjffoboiohnaaDoorPosS
namespace Go.Proofs.YtenjffoboiohnaaDoor
set_option linter.unusedSimpArgs false
set_option linter.unusedVariables false
set_option linter.unnecessarySimpa false
open Go.RowKit Go.ChangeShapes Go.WideShapes Go.ChangeAt Go.Joins

/-- a position and 'true', out of a call -/
def PbRes (w : World) (p : P) (e : Ending) (w' : World) : Prop := ∃ A : A2, e = .returned (.tuple #[p.val A.pa A.pc A.sa A.sc, .bool true]) ∧ POwn w' w.heap.size p A.pa A.pc A.sa A.sc ∧ Below w.heap.size w w'
set_option maxRecDepth 100000 in
set_option maxHeartbeats 16000000 in
theorem iReadPosition_c (r : R) (zs xs ys : List Int) (s0 s1 pl : Int) (hz : zs = xs ++ ys) (hok : P.ok ⟨zs, [s0, s1], pl⟩ r = true) (hx : (xs.length : Int) = r.pits) (hy : ys.length = xs.length) (h1 : 1 ≤ xs.length) (hm : xs.length ≤ 8) (w : World) (HT0 : TabB w) :
    Calls Tryd.prog 11 #[r.val, .string ⟨(posT xs ys [s0, s1] pl).toArray⟩] w (PbRes w ⟨zs, [s0, s1], pl⟩) := by
  obtain ⟨i0, hi, hz0, hz1, hz2⟩ := info_parts infoI
  have hlz : zs.length = xs.length + ys.length := by rw [hz]; simp
  obtain ⟨hb, ⟨pn, hpn, hpn1⟩, t, hB, _, ht⟩ := P.ok_parts hok
  have n1 : ∀ x ∈ xs, Num96 x := fun x hx => (hB.bp ht) x (by dsimp only; rw [hz]; exact List.mem_append_left _ hx)
  have n2 : ∀ x ∈ ys, Num96 x := fun x hx => (hB.bp ht) x (by dsimp only; rw [hz]; exact List.mem_append_right _ hx)
  have n3 : ∀ x ∈ [s0, s1], Num96 x := fun x hx => (hB.bs ht) x hx
  have n0 : Num96 pl := by dsimp only at hpn; exact ⟨by omega, by omega⟩
  have F0 := ((Fr.start w).alloc r.cells 25).allocF #[.slice none 0 0, .slice none 0 0, .int .i64 0] 28
  simp only [World.size_alloc] at F0
  have HT : Hid (∀ W, Below w.heap.size w W → TabB W) := fun W hW W' hW' => HT0 W' (below_next hW hW')
  have hTl := posT_len n0 n1 n2 n3 (by omega) (by omega) (by simp)
  have HP : Hid (∀ W, Calls Tryd.prog 24 #[.string ⟨(posT xs ys [s0, s1] pl).toArray⟩] W (SpRes W [Lib.itoa pl, jc xs ++ 47 :: jc ys, jc [s0, s1]])) := fun W => by
    rw [← posT_split n0 n1 n2 n3]
    exact parts_c _ W (by omega)
  have HRD : Hid (∀ W, Below w.heap.size w W → Calls Tryd.prog 25 #[.string ⟨(Lib.itoa pl).toArray⟩] W fun e w' => e = .returned (.tuple #[.int .i64 pl, .bool true]) ∧ Below W.heap.size W w') := fun W hW => by
    have h := ReadDecimal_c (Lib.itoa pl) W (HT.out W hW) (by have := (num_ok n0).2.2.2.1; omega)
    rw [(num_ok n0).2.2.2.2] at h
    exact h
  have hAl : (jc xs ++ 47 :: jc ys).length ≤ 1000000 := by
    have a := (jc_no n1).2.2
    have b := (jc_no n2).2.2
    simp only [List.length_append, List.length_cons]
    omega
  have HCU : Hid (∀ W, Calls Tryd.prog 26 #[.string ⟨(jc xs ++ 47 :: jc ys).toArray⟩, .string ⟨[47].toArray⟩] W fun e w' => e = .returned (.tuple #[.string ⟨(jc xs).toArray⟩, .string ⟨(jc ys).toArray⟩, .bool true]) ∧ Below W.heap.size W w') := fun W => by
    have h := cut_c 47 (jc xs ++ 47 :: jc ys) W hAl
    rw [posT_cut n1] at h
    exact h
  have HNX : Hid (∀ W, Below w.heap.size w W → Calls Tryd.prog 27 #[.string ⟨(jc xs).toArray⟩] W (NuRes W xs)) := fun W hW => readNumbers_c xs W (HT.out W hW) (by omega) n1 (by omega)
  have HNY : Hid (∀ W, Below w.heap.size w W → Calls Tryd.prog 27 #[.string ⟨(jc ys).toArray⟩] W (NuRes W ys)) := fun W hW => readNumbers_c ys W (HT.out W hW) (by omega) n2 (by omega)
  have HNS : Hid (∀ W, Below w.heap.size w W → Calls Tryd.prog 27 #[.string ⟨(jc [s0, s1]).toArray⟩] W (NuRes W [s0, s1])) := fun W hW => readNumbers_c [s0, s1] W (HT.out W hW) (by simp) n3 (by simp)
  have HV : Hid (∀ W pa pc sa sc, PRow W ⟨zs, [s0, s1], pl⟩ pa sa → Calls Tryd.prog 17 #[r.val, .agg #[.slice pa (xs.length + ys.length) pc, .slice sa 2 sc, .int .i64 pl]] W fun e w' => e = .returned (.bool true) ∧ Below W.heap.size W w') := fun W pa pc sa sc h => by
    have h2 := ValidPosition_c r ⟨zs, [s0, s1], pl⟩ pa sa pc sc W h (by dsimp only; omega) (by simp)
    rw [hok] at h2
    rw [← hlz]
    exact h2
  have HPT : Hid (∀ W pa pc sa sc, PRow W ⟨zs, [s0, s1], pl⟩ pa sa → xs.length + ys.length ≤ pc → pc ≤ maxLen → Calls Tryd.prog 12 #[r.val, .agg #[.slice pa (xs.length + ys.length) pc, .slice sa 2 sc, .int .i64 pl]] W fun e w' => e = .returned (.string ⟨(posT xs ys [s0, s1] pl).toArray⟩) ∧ Below W.heap.size W w') := fun W pa pc sa sc h hc hcm => by
    have h2 := PositionText_c r zs xs ys s0 s1 pl hz hok hx hy h1 hm pa sa pc sc W h (by omega) hcm
    rw [← hlz]
    exact h2
  obtain ⟨T, hT⟩ : ∃ T, T = posT xs ys [s0, s1] pl := ⟨_, rfl⟩
  rw [← hT] at HP HPT ⊢
  obtain ⟨D, hD⟩ : ∃ T, T = Lib.itoa pl := ⟨_, rfl⟩
  rw [← hD] at HP HRD
  obtain ⟨C, hC⟩ : ∃ T, T = jc xs ++ 47 :: jc ys := ⟨_, rfl⟩
  rw [← hC] at HP HCU
  obtain ⟨X, hX⟩ : ∃ T, T = jc xs := ⟨_, rfl⟩
  rw [← hX] at HCU HNX
  obtain ⟨Y, hY⟩ : ∃ T, T = jc ys := ⟨_, rfl⟩
  rw [← hY] at HCU HNY
  obtain ⟨S, hS⟩ : ∃ T, T = jc [s0, s1] := ⟨_, rfl⟩
  rw [← hS] at HP HNS
  have HL : Hid (1 ≤ xs.length ∧ xs.length ≤ 8 ∧ ys.length = xs.length ∧ zs = xs ++ ys ∧ zs.length = xs.length + ys.length) := ⟨h1, hm, hy, hz, hlz⟩
  clear hT hD hC hX hY hS hTl hAl n0 n1 n2 n3 hb hB ht hpn hpn1 hok hx hy h1 hm hlz hz HT0 HT
  go_enter Tryd.func11, Tryd.ntmps11
  go_wp2_with fail
  refine (HP.out _).mono ?_
  rintro e w1 ⟨a, c, rfl, ho1, hb1⟩
  obtain ⟨g, rfl, hg1, hg2⟩ := own_lt_n ho1 (by simp)
  have HC : Hid (∀ W, Below w1.heap.size w1 W → W.cell? ⟨g, 0, none⟩ = some (.string ⟨D.toArray⟩) ∧ W.cell? ⟨g, 1, none⟩ = some (.string ⟨C.toArray⟩) ∧ W.cell? ⟨g, 2, none⟩ = some (.string ⟨S.toArray⟩)) := fun W hW =>
    ⟨(hW.cell (p := ⟨g, 0, none⟩) hg2).trans (ho1.cells (g := g) rfl 0 _ rfl), (hW.cell (p := ⟨g, 1, none⟩) hg2).trans (ho1.cells (g := g) rfl 1 _ rfl), (hW.cell (p := ⟨g, 2, none⟩) hg2).trans (ho1.cells (g := g) rfl 2 _ rfl)⟩
  have F1 := F0.step hb1
  obtain ⟨c0, c1, c2⟩ := HC.out w1 (Below.refl _ _)
  clear ho1 hb1 HP F0 hg1 hg2
  go_wp2_with fail
  refine (HRD.out _ F1.below).mono ?_
  rintro e w2 ⟨rfl, hb2⟩
  have F2 := F1.step hb2
  have HB2 := Lib.hid hb2
  clear c0 c1 c2 hb2 HRD F1
  obtain ⟨c0, c1, c2⟩ := HC.out _ HB2.out
  go_wp2_with fail
  refine (HCU.out _).mono ?_
  rintro e w3 ⟨rfl, hb3⟩
  have F3 := F2.step hb3
  have HB3 := Lib.hid (below_next HB2.out hb3)
  clear c0 c1 c2 hb3 HCU F2 HB2
  go_wp2_with fail
  refine (HNX.out _ F3.below).mono ?_
  rintro e w4 ⟨xa, xc, rfl, ho4, hb4⟩
  have F4 := (F3.step hb4).own (lo := w3.heap.size) (c := xc) (a := xa) (xs := xs) ho4
  have HB4 := Lib.hid (below_next HB3.out hb4)
  have HS3 : Hid (w.heap.size + 2 ≤ w3.heap.size) := by have := F3.le 0 rfl; unfold Hid; omega
  have HB34 : Hid (w3.heap.size ≤ w4.heap.size) := hb4.size
  clear ho4 hb4 HNX F3 HB3
  go_wp2_with fail
  refine (HNY.out _ F4.below).mono ?_
  rintro e w5 ⟨ya, yc, rfl, ho5, hb5⟩
  have F5 := (F4.step hb5).own (lo := w4.heap.size) (c := yc) (a := ya) (xs := ys) ho5
  have HB5 := Lib.hid (below_next HB4.out hb5)
  have HB45 : Hid (w4.heap.size ≤ w5.heap.size ∧ w3.heap.size ≤ w4.heap.size) := ⟨hb5.size, HB34.out⟩
  clear ho5 hb5 HNY F4 HB4 HB34
  obtain ⟨c0, c1, c2⟩ := HC.out _ HB5.out
  go_wp2_with fail
  refine (HNS.out _ F5.below).mono ?_
  rintro e w6 ⟨sa, sc, rfl, ho6, hb6⟩
  have F6 := (F5.step hb6).own (lo := w5.heap.size) (c := sc) (a := sa) (xs := [s0, s1]) ho6
  have HSZ : Hid (w4.heap.size ≤ w5.heap.size ∧ w5.heap.size ≤ w6.heap.size ∧ w3.heap.size ≤ w4.heap.size) := by have a := HB45.out; have b := hb6.size; unfold Hid; omega
  clear ho6 hb6 HNS F5 c0 c1 c2 HC HB5 HB45
  have hws3 := HS3.out
  have hs45 : w4.heap.size ≤ w5.heap.size ∧ w5.heap.size ≤ w6.heap.size ∧ w3.heap.size ≤ w4.heap.size := HSZ.out
  have hX6 := (F6.at 2 rfl).1
  have hY6 := (F6.at 1 rfl).1
  obtain ⟨yg, rfl, _, _⟩ := own_lt_n hY6 (by have := HL.out; omega)
  have HX6 := Lib.hid hX6
  have HY6 := Lib.hid (own_row hY6)
  have HB6 := Lib.hid (⟨F6.below, by omega, hX6.lt⟩ : Below w.heap.size w w6 ∧ w3.heap.size ≤ w6.heap.size ∧ _)
  have HF6 := Lib.hid F6
  clear hX6 hY6 F6 hws3 hs45
  go_wp2_with (at_builtin; refine wpList_append_own2 _ rfl _ _ 26 rfl w3.heap.size 2 i0 (.int .i64 0) 1 8 Tryd.underlying26 hi hz0 hz1 hz2 rfl (by decide) (.slice xa xs.length xc) xs.length (xs.map (Value.int .i64)) rfl HX6.out ⟨yg, 0, none⟩ ys.length yc (ys.map (Value.int .i64)) rfl (by simp) (fun j u hu => by obtain ⟨b', o', e', hc'⟩ := HY6.out j u hu; cases e'; rw [addr_addS]; exact hc') (by intro u hu; simp at hu; obtain ⟨_, _, rfl⟩ := hu; rfl) (by have := HL.out; unfold maxLen; omega) (by have := HL.out; omega) HB6.out.2.1 ?_)
  intro ad7 c7 w7 ho7 hg7 hn7
  have hsz := HSZ.out
  have hs3 := HS3.out
  have F7 := HF6.out.chgAt 2 (RowP.chg (HF6.out.at 2 rfl) hg7) (by omega) (by
    intro q hq
    simp only [List.eraseIdx, List.mem_cons, List.mem_nil_iff, or_false] at hq
    rcases hq with rfl | rfl | rfl | rfl <;> dsimp only <;> omega)
  simp only [List.eraseIdx] at F7
  have hz7 : w7.ownsRow w3.heap.size 2 1 (.slice ad7 zs.length c7) zs.length (zs.map (Value.int .i64)) := by
    rw [HL.out.2.2.2.2, HL.out.2.2.2.1, List.map_append]
    exact ho7
  have hS7 := (F7.at 0 rfl).1
  have hcap := own_caps hz7
  have HAP : Hid ((Value.slice ad7 zs.length c7).ownBlock = none ∨ (Value.slice ad7 zs.length c7).ownBlock ≠ (Value.slice sa 2 sc).ownBlock) := by
    refine .inr (fun e => ?_)
    obtain ⟨gz, rfl, _, _⟩ := own_lt_n hz7 (by have := HL.out; omega)
    have e1 : (Value.slice sa 2 sc).ownBlock = some gz := by rw [← e]; rfl
    have b1 := (hS7.lt gz e1).1
    have b2 := (F7.at 0 rfl).2 gz e1
    rcases hn7 gz rfl with h | h
    · have := (HF6.out.at 2 rfl).2 gz h
      omega
    · omega
  have HZ7 := Lib.hid (⟨hz7, hS7⟩ : _ ∧ _)
  have HCAP : Hid (xs.length + ys.length ≤ c7 ∧ c7 ≤ maxLen) := by rw [← HL.out.2.2.2.2]; exact hcap
  have F8 := F7.alloc #[.slice ad7 (xs.length + ys.length) c7, .slice sa 2 sc, .int .i64 pl] 28
  have HPR : Hid (∀ W, Below w7.heap.size w7 W → PRow W ⟨zs, [s0, s1], pl⟩ ad7 sa) := fun W hW => ⟨(own_row hz7).below hW (Nat.le_refl _), (own_row hS7).below hW (Nat.le_refl _)⟩
  obtain ⟨c0, c1, c2, c3, c4, c5, c6, c7', c8⟩ := R.boxc (F8.at 4 rfl)
  obtain ⟨d0, d1, d2⟩ := (⟨F8.at 0 rfl 0 _ rfl, F8.at 0 rfl 1 _ rfl, F8.at 0 rfl 2 _ rfl⟩ : _ ∧ _ ∧ _)
  have HF8 := Lib.hid F8
  have HZS : Hid (w.heap.size + 2 ≤ w7.heap.size) := by have := hg7.size; unfold Hid; omega
  clear hsz hs3 F7 F8 hz7 hS7 hcap ho7 hg7 hn7 HF6 HX6 HY6 HB6
  go_wp2_with fail
  refine (HV.out _ _ _ _ _ (HPR.out _ (below_alloc1 _ _))).mono ?_
  rintro e w9 ⟨rfl, hb9⟩
  have F9 := HF8.out.step hb9
  have HB9 : Hid (Below w7.heap.size w7 w9) := below_next (below_alloc1 _ _) hb9
  clear c0 c1 c2 c3 c4 c5 c6 c7' c8 d0 d1 d2 hb9 HF8 HV
  obtain ⟨c0, c1, c2, c3, c4, c5, c6, c7', c8⟩ := R.boxc (F9.at 4 rfl)
  obtain ⟨d0, d1, d2⟩ := (⟨F9.at 0 rfl 0 _ rfl, F9.at 0 rfl 1 _ rfl, F9.at 0 rfl 2 _ rfl⟩ : _ ∧ _ ∧ _)
  have HF9 := Lib.hid F9
  clear F9
  go_wp2_with fail
  refine (HPT.out _ _ _ _ _ (HPR.out _ HB9.out) HCAP.out.1 HCAP.out.2).mono ?_
  rintro e w10 ⟨rfl, hb10⟩
  have F10 := HF9.out.step hb10
  have HB10 : Hid (Below w7.heap.size w7 w10) := below_next HB9.out hb10
  clear c0 c1 c2 c3 c4 c5 c6 c7' c8 d0 d1 d2 hb10 HF9 HPT
  obtain ⟨d0, d1, d2⟩ := (⟨F10.at 0 rfl 0 _ rfl, F10.at 0 rfl 1 _ rfl, F10.at 0 rfl 2 _ rfl⟩ : _ ∧ _ ∧ _)
  obtain ⟨bx, bf⟩ := F10.at 3 rfl
  obtain ⟨x0, x1, x2⟩ := (⟨bx 0 _ rfl, bx 1 _ rfl, bx 2 _ rfl⟩ : _ ∧ _ ∧ _)
  have zC : w.heap.size + 1 < w10.heap.size := F10.le 3 rfl
  have z7 : w7.heap.size < w10.heap.size := F10.le 0 rfl
  have hs3 := HS3.out
  have hsz := HSZ.out
  have hne : ¬ w7.heap.size = w.heap.size + 1 := by have := HZS.out; omega
  have HB := Lib.hid F10.below
  clear bx F10
  go_wp2
  refine bodyPost_ret (v := .tuple #[.agg #[.slice ad7 (xs.length + ys.length) c7, .slice sa 2 sc, .int .i64 pl], .bool true]) (by simp [results, Tryd.results11, go_sem, x0, x1, x2, bf, zC]) rfl ?_
  have H10 := HB10.out
  have HZ := HZ7.out
  have HBB := HB.out
  refine ⟨⟨ad7, c7, sa, sc⟩, ?_, ⟨?_, ?_, ?_⟩, ?_⟩
  · simp only [P.val, P.cells, HL.out.2.2.2.2]
    rfl
  · have k0 := own_below HZ.1 H10 (Nat.le_refl _)
    dsimp only at k0 ⊢
    refine ownsRow_le (base := w3.heap.size) ?_ (by have := HS3.out; omega)
    repeat (first | (with_reducible exact k0) | ((with_reducible refine ownsRow_setCell_below ?_ ?_ _); rotate_left; (have := HS3.out; simp; omega)) | (with_reducible refine World.ownsRow.drew ?_))
  · have k0 := own_below HZ.2 H10 (Nat.le_refl _)
    dsimp only at k0 ⊢
    refine ownsRow_le (base := w5.heap.size) ?_ (by have := HS3.out; have := HSZ.out; omega)
    repeat (first | (with_reducible exact k0) | ((with_reducible refine ownsRow_setCell_below ?_ ?_ _); rotate_left; (have := HS3.out; have := HSZ.out; simp; omega)) | (with_reducible refine World.ownsRow.drew ?_))
  · exact HAP.out
  · repeat (first | (with_reducible exact HBB) | ((with_reducible refine Below.setCell ?_ ?_ _); rotate_left; (simp <;> omega)) | (with_reducible refine Below.drew ?_))

end Go.Proofs.YtenjffoboiohnaaDoor
