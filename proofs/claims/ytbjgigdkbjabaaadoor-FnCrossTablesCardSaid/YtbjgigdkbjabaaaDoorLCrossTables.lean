/- The law FnCrossTables returns true for every argument, and every argument reads afterwards as before, where the listed package-level variables hold what the program's text lays. -/
import Derived.Test.YtbjgigdkbjabaaaDoorTabW
import Derived.Test.YtbjgigdkbjabaaaDoorDoorX
import Derived.Test.YtbjgigdkbjabaaaDoorCards
import Derived.Test.YtbjgigdkbjabaaaDoorTie
import Derived.SevenTiedAt
import Derived.Laws.StructEq
namespace Go.Proofs.YtbjgigdkbjabaaaDoor.lCrossTables
set_option linter.unusedSimpArgs false
set_option linter.unusedVariables false
set_option linter.unnecessarySimpa false
open Go.RowKit Go.ChangeShapes Go.WideShapes Go.ChangeAt Go.Joins
open Go.ChangeMaps (open_string)

set_option maxRecDepth 100000 in
set_option maxHeartbeats 64000000 in
theorem walk (ca : Option Addr) (cc : Nat) (bs : List Int) (w : World) (hm1 : bs.length ≤ maxLen) (hb : bs.length ≤ 4096 → ByteP w.heap.size ca bs w) (ht : TabB w) :
    Calls Tryd.prog 5 #[.slice ca bs.length cc] w fun e w' => e = .returned (.bool true) ∧ Below w.heap.size w w' := by
  by_cases hl : 4096 < (bs.length : Int)
  · have HL : decide (4096 < (bs.length : Int)) = true := by simpa using hl
    clear hb hl ht
    go_enter Tryd.func5, Tryd.ntmps5
    go_wp2_with fail
    refine (f6big_c ca _ cc _ hm1).mono ?_
    rintro e w1 ⟨rfl, rfl⟩
    rw [HL]
    go_wp2
    go_ret
    exact ⟨rfl, Below.refl _ _⟩
  have HB := Lib.hid (hb (by omega))
  have HL : decide (4096 < (bs.length : Int)) = false := by simp; omega
  have HT : Hid (∀ W, Below w.heap.size w W → TabB W) := fun W hW W' hW' => ht W' (below_next hW hW')
  have HBY : Hid (∀ W, Below w.heap.size w W → ByteP W.heap.size ca bs W) := fun W hW => byteP_up (HB.out.keep (fun k hk => hW.block k hk)) hW.size
  clear hb hl ht
  go_enter Tryd.func5, Tryd.ntmps5
  go_wp2_with fail
  refine (f6big_c ca _ cc _ hm1).mono ?_
  rintro e w1 ⟨rfl, rfl⟩
  rw [HL]
  clear hm1 HL
  go_wp2_with fail
  refine (DrawCrossTable_c ca cc bs _ HB.out).mono ?_
  rintro e w1 ⟨n, la, lc, l, rfl, hl3, hp1, hb1⟩
  have F1 := ((Fr.start w).step hb1).pcs hp1
  clear hp1 hb1 HB
  obtain ⟨xs, hxs⟩ : ∃ xs, xs = crossP n l := ⟨_, rfl⟩
  obtain ⟨kc, hkc⟩ : ∃ k, k = crossK n l := ⟨_, rfl⟩
  have HXL : Hid (xs.length ≤ 12) := by rw [hxs]; exact crossP_len n l
  have HXN : Hid (kc = 0 → (xs.length : Int) = n) := fun h => by rw [hxs]; exact cross_len (by rw [← hkc]; exact h)
  have HCI : Hid (∀ W, Row W la (flat mtRL.f l) → TabB W → Calls Tryd.prog 12 #[.int .i64 n, .slice la l.length lc] W (StResC W xs kc)) := fun W h h2 => by rw [hxs, hkc]; exact iCrossTable_c n l la lc W h (by omega) h2
  have HCS : Hid (∀ W, Row W la (flat mtRL.f l) → Calls Tryd.prog 10 #[.int .i64 n, .slice la l.length lc] W (StResC W xs kc)) := fun W h => by rw [hxs, hkc]; exact sCrossTable_c n l la lc W h (by omega)
  clear hxs hkc hl3
  go_wp2_with fail
  refine (HCI.out _ (mt_row (F1.at 0 rfl)) (HT.out _ F1.below)).mono ?_
  rintro e w2 ⟨ia, ic, rfl, ho2, hb2⟩
  have F2 := (F1.step hb2).ownV ho2
  clear ho2 hb2 F1 HCI
  go_wp2_with fail
  refine (HCS.out _ (mt_row (F2.at 1 rfl))).mono ?_
  rintro e w3 ⟨sa, sc, rfl, ho3, hb3⟩
  have F3 := (F2.step hb3).ownV ho3
  clear ho3 hb3 F2 HCS
  go_wp2_with fail
  refine (DrawMatchText_c ca cc bs _ (HBY.out _ F3.below)).mono ?_
  rintro e w4 ⟨m, rfl, hsm, hb4⟩
  have HMI := Lib.hid (fun W => iMatchText_c m W)
  have HMS := Lib.hid (fun W => sMatchText_c m W)
  have hTl := mT_len hsm
  have hok : (m.ok 12 = true → (mT m).isEmpty = false ∧ rmI (mT m) = (m, true)) := fun h => ⟨mT_ok h, rm_back h⟩
  have hbad : (¬ m.ok 12 = true → (mT m).isEmpty = true ∧ (rmI (mT m)).2 = false) := fun h => by rw [mT_bad h, rm_nil]; exact ⟨rfl, rfl⟩
  obtain ⟨T, hT⟩ : ∃ T, T = mT m := ⟨_, rfl⟩
  rw [← hT] at HMI HMS hTl hok hbad
  have HR1 := Lib.hid (fun (W : World) (hW : Below w.heap.size w W) => iReadMatch_c T W (HT.out W hW) hTl)
  obtain ⟨r, hr⟩ : ∃ r, r = (rmI T).1 := ⟨_, rfl⟩
  obtain ⟨okb, hokb⟩ : ∃ b, b = (rmI T).2 := ⟨_, rfl⟩
  have HOK : Hid ((okb = true → T.isEmpty = false ∧ r = m) ∧ (okb = false → T.isEmpty = true)) := by
    rw [hr, hokb]
    by_cases h : m.ok 12 = true
    · obtain ⟨h1, h2⟩ := hok h
      rw [h2]
      exact ⟨fun _ => ⟨h1, rfl⟩, fun h3 => by cases h3⟩
    · obtain ⟨h1, h2⟩ := hbad h
      rw [h2]
      exact ⟨fun h3 => (by cases h3), fun _ => h1⟩
  rw [← hr, ← hokb] at HR1
  clear hr hokb hok hbad hT hTl hsm
  have F4 := (F3.step hb4).alloc m.cells 45
  clear hb4 F3
  obtain ⟨ma, mb, ms, mf⟩ := m
  obtain ⟨ra, rb, rs, rf⟩ := r
  go_wp2_with fail
  refine (HMI.out _).mono ?_
  rintro e w5 ⟨rfl, hb5⟩
  have F5 := F4.step hb5
  clear hb5 F4 HMI
  go_wp2_with fail
  refine (HR1.out _ F5.below).mono ?_
  rintro e w6 ⟨rfl, hb6⟩
  have F6 := (F5.step hb6).alloc (Mt.cells ⟨ra, rb, rs, rf⟩) 45
  clear hb6 F5 HR1
  go_wp2_with fail
  refine (DrawReadMatch_c ca cc bs _ (HBY.out _ F6.below)).mono ?_
  rintro e w7 ⟨u, rfl, hul, hb7⟩
  have F7 := F6.step hb7
  have HR2 := Lib.hid (fun (W : World) (hW : Below w.heap.size w W) => iReadMatch_c u W (HT.out W hW) hul)
  have HR3 := Lib.hid (fun (W : World) => sReadMatch_c u W hul)
  rw [← rm_eq u] at HR3
  obtain ⟨x, hx⟩ : ∃ x, x = (rmI u).1 := ⟨_, rfl⟩
  obtain ⟨one, hone⟩ : ∃ b, b = (rmI u).2 := ⟨_, rfl⟩
  have HX : Hid (one = true → mT x = u) := fun h => by rw [hx]; exact rm_text (by rw [← hone]; exact h)
  have HMX := Lib.hid (fun W => iMatchText_c x W)
  rw [← hx, ← hone] at HR2 HR3
  clear hx hone hb7 F6 HT HBY hul
  obtain ⟨xa, xb, xc, xf⟩ := x
  go_wp2_with fail
  refine (HR2.out _ F7.below).mono ?_
  rintro e w8 ⟨rfl, hb8⟩
  have F8 := (F7.step hb8).alloc (Mt.cells ⟨xa, xb, xc, xf⟩) 45
  clear hb8 F7 HR2
  go_wp2_with fail
  refine (HR3.out _).mono ?_
  rintro e w9 ⟨rfl, hb9⟩
  have F9 := (F8.step hb9).alloc (Mt.cells ⟨xa, xb, xc, xf⟩) 45
  clear hb9 F8 HR3
  go_wp2_with fail
  refine (f6texts_c xs ia sa ic sc _ (own_row (F9.at 5 rfl).1) (own_row (F9.at 4 rfl).1) (by have := HXL.out; omega)).mono ?_
  rintro e w10 ⟨rfl, hb10⟩
  have F10 := F9.step hb10
  have hm := F10.at 3 rfl
  have m0 : w10.cell? ⟨w4.heap.size, 0, none⟩ = some (.int .i64 ma) := hm 0 _ rfl
  have m1 : w10.cell? ⟨w4.heap.size, 1, none⟩ = some (.int .i64 mb) := hm 1 _ rfl
  have m2 : w10.cell? ⟨w4.heap.size, 2, none⟩ = some (.int .i64 ms) := hm 2 _ rfl
  have m3 : w10.cell? ⟨w4.heap.size, 3, none⟩ = some (.bool mf) := hm 3 _ rfl
  clear hm hb10 F9
  go_wp2_with fail
  refine (HMS.out _).mono ?_
  rintro e w11 ⟨rfl, hb11⟩
  have F11 := F10.step hb11
  have hy := F11.at 0 rfl
  have hx := F11.at 1 rfl
  have hr := F11.at 2 rfl
  have hm := F11.at 3 rfl
  have y0 : w11.cell? ⟨w9.heap.size, 0, none⟩ = some (.int .i64 xa) := hy 0 _ rfl
  have y1 : w11.cell? ⟨w9.heap.size, 1, none⟩ = some (.int .i64 xb) := hy 1 _ rfl
  have y2 : w11.cell? ⟨w9.heap.size, 2, none⟩ = some (.int .i64 xc) := hy 2 _ rfl
  have y3 : w11.cell? ⟨w9.heap.size, 3, none⟩ = some (.bool xf) := hy 3 _ rfl
  have x0 : w11.cell? ⟨w8.heap.size, 0, none⟩ = some (.int .i64 xa) := hx 0 _ rfl
  have x1 : w11.cell? ⟨w8.heap.size, 1, none⟩ = some (.int .i64 xb) := hx 1 _ rfl
  have x2 : w11.cell? ⟨w8.heap.size, 2, none⟩ = some (.int .i64 xc) := hx 2 _ rfl
  have x3 : w11.cell? ⟨w8.heap.size, 3, none⟩ = some (.bool xf) := hx 3 _ rfl
  have r0 : w11.cell? ⟨w6.heap.size, 0, none⟩ = some (.int .i64 ra) := hr 0 _ rfl
  have r1 : w11.cell? ⟨w6.heap.size, 1, none⟩ = some (.int .i64 rb) := hr 1 _ rfl
  have r2 : w11.cell? ⟨w6.heap.size, 2, none⟩ = some (.int .i64 rs) := hr 2 _ rfl
  have r3 : w11.cell? ⟨w6.heap.size, 3, none⟩ = some (.bool rf) := hr 3 _ rfl
  have q0 : w11.cell? ⟨w4.heap.size, 0, none⟩ = some (.int .i64 ma) := hm 0 _ rfl
  have q1 : w11.cell? ⟨w4.heap.size, 1, none⟩ = some (.int .i64 mb) := hm 1 _ rfl
  have q2 : w11.cell? ⟨w4.heap.size, 2, none⟩ = some (.int .i64 ms) := hm 2 _ rfl
  have q3 : w11.cell? ⟨w4.heap.size, 3, none⟩ = some (.bool mf) := hm 3 _ rfl
  have HBF := Lib.hid F11.below
  obtain ⟨hA, hBd⟩ := HOK.out
  clear hy hx hr hm m0 m1 m2 m3 hb11 F11 F10 HMS HOK HXL
  have hK : (kc != 0) = true ∨ ((kc != 0) = false ∧ ((xs.length : Int) == n) = true) := by
    by_cases hk : kc = 0
    · right
      exact ⟨by rw [hk]; rfl, by rw [HXN.out hk]; simp⟩
    · left
      simpa using hk
  clear HXN
  rcases hK with hkq | ⟨hkq, hxq⟩
  all_goals cases okb
  all_goals first | (obtain ⟨hTe, he⟩ := hA rfl; cases he) | have hTe := hBd rfl
  all_goals clear hA hBd
  all_goals cases one
  case inl.false.false | inl.true.refl.false | inr.false.false | inr.true.refl.false =>
    go_wp2
    go_ret
    exact ⟨by first | rfl | simp, HBF.out⟩
  all_goals
    have HXX := Lib.hid (HX.out rfl)
    clear HX
    go_wp2_with fail
    refine (HMX.out _).mono ?_
    rintro e w12 ⟨rfl, hb12⟩
    rw [HXX.out]
    have HB12 := Lib.hid (below_next HBF.out hb12)
    clear hb12
    go_wp2
    go_ret
    exact ⟨by first | rfl | simp, HB12.out⟩

set_option maxRecDepth 100000 in
theorem contract (H : Type) (enc : TypeId × Value → H) (W : World) (base : Nat) (args : Array Value) (ds gs : List (DataW H)) (before : List MemPlace)
    (hval : ∀ (j : Nat) t v, Tryd.f5.params[j]? = some t → args[j]? = some v → Value.okWide Tryd.prog W .any base t v)
    (hW : DataW.Whole enc Tryd.prog Tryd.f5.params.toList Rows.fnCrossTablesSpec.vars false W args.toList ds gs before) (hL : laidMetH Tryd.prog laidL W) :
    Calls Tryd.prog 5 args W fun e W' => ∃ v, e = .returned v ∧ Rows.fnCrossTablesSpec.post enc Tryd.prog Tryd.f5 false true false false W args v W' := by
  have hW' := hW
  have htab := Lib.tabBelow_of_tabIs (laidL_tab hL)
  obtain ⟨p, q, hA0, hV, rfl, hfz, hnd⟩ := hW
  have hA : DataW.TrodAll enc Tryd.prog W 0 (fun _ => true) true Tryd.f5.params.toList args.toList ds p := hA0
  rw [Tryd.params5] at hA hval
  obtain ⟨v0, vs0, d0, ds0, p0, q0, hargs, rfl, rfl, h0, r0⟩ := trodAll_cons hA
  obtain ⟨rfl, rfl, rfl⟩ := trodAll_nil r0
  obtain rfl : args = #[v0] := by cases args; simp_all
  obtain ⟨ba0, bc0, bs0, rfl, w0⟩ := arg_bytes (hval 0 40 v0 rfl rfl) h0
  refine (walk ba0 bc0 bs0 W w0.2.1 w0.2.2.2 htab).mono fun e W' ⟨he, hb⟩ => ?_
  subst he
  exact ⟨_, rfl, law_post hW' hb rfl rfl (by kernel_rfl) rfl⟩

set_option maxRecDepth 100000 in
theorem lifted (os : Os) (started : os.Started) (H : Type) (enc : TypeId × Value → H) :
    ReturnsInHanded {} Tryd.checked os 5 .any (fun w args => (Rows.fnCrossTablesSpec.pre enc Tryd.prog Tryd.f5 [] false w args ∧ laidMetH Tryd.prog laidL w) ∧ sizedMet enc Tryd.prog Tryd.f5 (OpenSpec.ofChange Rows.fnCrossTablesSpec) false w args)
      (Rows.fnCrossTablesSpec.post enc Tryd.prog Tryd.f5 false true false false) := by
  refine returnsInHanded_of_change_and (C := Tryd.checked) (X := fun w _ => laidMetH Tryd.prog laidL w) (fun _ _ _ hh h => h.of_heap hh) own started (by kernel_rfl) Tryd.func5
    (ChangeSpec.witness_shaped (enc := enc) (C := Tryd.checked) (os := os) (X := fun w _ => laidMetH Tryd.prog laidL w) false (World.doorLaid Tryd.prog 400 os) #[.slice none 0 0] 8 rfl (World.shaped_of_RefB (by kernel_rfl) (by kernel_rfl)) (by kernel_rfl) (by kernel_rfl) (by kernel_rfl) (doorL_met os _)) ?_
  intro W base args ds gs before hval0 hW _ _ hL _
  exact contract H enc W base args ds gs before hval0 hW hL

theorem row_proved : Rows.FnCrossTablesSaid :=
  OpenClaim.holds_of_wide 5 Tryd.f5 rfl rfl rfl rfl rfl rfl rfl ⟨rfl, rfl, rfl, rfl, rfl⟩ rfl rfl rfl rfl rfl (by kernel_rfl) Tryd.func5 (by kernel_rfl)
    (of_decide_eq_true (by kernel_rfl)) (by unfold Func.isWrapper; first | (rw [if_pos (by decide +kernel)]; kernel_rfl) | (rw [if_neg (by decide +kernel)]; exact ⟨rfl, rfl⟩))
    (fun os started H enc _ => lifted os started H enc)

set_option maxRecDepth 100000 in
theorem proved : Rows.FnCrossTablesCardSaid :=
  Claim7.holds_tied_plain_at .later [] [.data, .data, .data] true (true, "cf7da85aba921c0a137666ee167e91f821a3b8d94663f1f91e3d68700fadb406") false
    row_proved (fun _ h => by cases h) (by kernel_rfl) (fun _ h => by cases h) fnCrossTables_row_tie rfl ⟨rfl, rfl⟩ (by kernel_rfl) rfl
    (fun f fn hf hfn => by
      obtain rfl : f = 5 := Option.some.inj ((show Tryd.prog.funcNamed "loop.example/g00926/laws.FnCrossTables" = some 5 by kernel_rfl).symm.trans hf) |>.symm
      obtain rfl : fn = Tryd.f5 := (Option.some.inj (Tryd.func5.symm.trans hfn)).symm
      exact ⟨by kernel_rfl, fun j t ht => by
        rw [Tryd.params5] at ht
        have hm : t ∈ [40] := by simpa using Array.mem_of_getElem? ht
        have hall : ([40].all fun u => !Tryd.prog.wantsStandIn u) = true := by kernel_rfl
        exact (show Tryd.prog.wantsStandIn t = false by simpa using List.all_eq_true.1 hall t hm)⟩)
    (by kernel_rfl)
end Go.Proofs.YtbjgigdkbjabaaaDoor.lCrossTables
