/- The law FnWindows returns true for every argument, and every argument reads afterwards as before. No conditions. -/
import Derived.Test.YtbjdfgfebepacaaTurnV
import Derived.Test.YtbjdfgfebepacaaDraw1
import Derived.Test.YtbjdfgfebepacaaSrch3
namespace Go.Proofs.Ytbjdfgfebepacaa.lWindows
set_option linter.unusedSimpArgs false
set_option linter.unusedVariables false
set_option linter.unnecessarySimpa false
open Go.RowKit Go.ChangeShapes Go.WideShapes Go.ChangeAt Go.Joins
open Go.ChangeMaps (open_string)

set_option maxRecDepth 100000 in
set_option maxHeartbeats 16000000 in
theorem walk (ca da : Option Addr) (cc dc : Nat) (bs ds : List Int) (w : World) (hm1 : bs.length ≤ maxLen) (hm2 : ds.length ≤ maxLen) (hb : bs.length ≤ 4096 → ByteP w.heap.size ca bs w) (hd : ds.length ≤ 4096 → ByteP w.heap.size da ds w) :
    Calls Try.prog 8 #[.slice ca bs.length cc, .slice da ds.length dc] w fun e w' => e = .returned (.bool true) ∧ Below w.heap.size w w' := by
  by_cases hl : 3000 < (bs.length : Int) ∨ 3000 < (ds.length : Int)
  · have HL : (decide (3000 < (bs.length : Int)) || decide (3000 < (ds.length : Int))) = true := by simpa using hl
    clear hb hd hl
    go_enter Try.func8, Try.ntmps8
    go_wp2_with fail
    refine (a2Long_c ca da _ _ cc dc _ hm1 hm2).mono ?_
    rintro e w1 ⟨rfl, rfl⟩
    rw [HL]
    go_wp2
    go_ret
    exact ⟨rfl, Below.refl _ _⟩
  have HB := Lib.hid (hb (by omega))
  have HD := Lib.hid (hd (by omega))
  have HL : (decide (3000 < (bs.length : Int)) || decide (3000 < (ds.length : Int))) = false := by simp; omega
  clear hb hd hl
  go_enter Try.func8, Try.ntmps8
  go_wp2_with fail
  refine (a2Long_c ca da _ _ cc dc _ hm1 hm2).mono ?_
  rintro e w1 ⟨rfl, rfl⟩
  rw [HL]
  clear hm1 hm2 HL
  go_wp2_with fail
  refine (A2Few_c ca cc bs _ HB.out).mono ?_
  rintro e w2 ⟨r, p, A, rfl, hdr, hdp, ho2, hb2⟩
  have hok := hdp.ok hdr
  obtain ⟨hlo, hhi⟩ := R.ok_bd hdr.1
  obtain ⟨lp, ls⟩ := P.ok_lens hok
  obtain ⟨hc, hcm⟩ := own_caps ho2.pits
  have F2 := ((Fr.start w2).alloc r.cells 25).alloc (p.cells A.pa A.pc A.sa A.sc) 67
  have HOK := Lib.hid hok
  have HP : Hid (∀ W, Below w2.heap.size w2 W → PRow W p A.pa A.sa) := fun W hW => ho2.row.below hW (Nat.le_refl _)
  have HW : Hid (∀ W, Below w2.heap.size w2 W → Below w.heap.size w W) := fun W hW => below_next hb2 hW
  have HBD := Lib.hid (HD.out.keep (fun k hk => (HW.out _ F2.below).block k hk))
  clear hok hb2 ho2 HB HD hdr hdp
  go_wp2_with fail
  refine (a2At_c w.heap.size da dc ds 0 5 _ HBD.out (by omega) (by omega) (by omega) (by omega)).mono ?_
  rintro e w4 ⟨d, rfl, d0, d1, rfl⟩
  go_wp2_with fail
  refine (a2At_c w.heap.size da dc ds 1 13 _ HBD.out (by omega) (by omega) (by omega) (by omega)).mono ?_
  rintro e w4 ⟨lo, rfl, l0, l1, rfl⟩
  go_wp2_with fail
  refine (a2At_c w.heap.size da dc ds 2 6 _ HBD.out (by omega) (by omega) (by omega) (by omega)).mono ?_
  rintro e w4 ⟨k, rfl, k0, k1, rfl⟩
  have HWD := windows_hold r p HOK.out d (lo - 6) k k0
  have HSZ := size_hold r p d
  have HTV := svalP_sg (turnP_pt HOK.out) d
  have M1 := fun W h => sSearchValue_c r p d A.pa A.sa A.pc A.sc W h (by omega) (by omega)
  have M2 := fun W h => iSearchWindow_c r p d (lo - 6) (lo - 6 + k) A.pa A.sa A.pc A.sc W h (by omega) (by omega) hc hcm
  have M3 := fun W h => iSearchSize_c r p d A.pa A.sa A.pc A.sc W h (by omega) (by omega) hc hcm
  have MT := Lib.hid (fun W h => sTurnPosition_c r p HOK.out A.pa A.sa A.pc A.sc W h (by omega) (by omega) hc hcm)
  have HPT := turnP_pt HOK.out
  have htok := HPT.ok HOK.out
  obtain ⟨lp3, ls3⟩ := P.ok_lens htok
  obtain ⟨t, ht⟩ : ∃ t, t = turnP r p := ⟨_, rfl⟩
  rw [← ht] at HTV MT lp3 ls3
  have M4 := fun (ua va : Option Addr) (uc vc : Nat) W h hc3 hcm3 => iSearchValue_c r t d ua va uc vc W h (by omega) (by omega) hc3 hcm3
  rw [HTV] at M4
  rw [HWD] at M2
  obtain ⟨v, hv⟩ : ∃ v, v = valueP r d.toNat p := ⟨_, rfl⟩
  obtain ⟨c, hcd⟩ : ∃ c, c = srchC r p d := ⟨_, rfl⟩
  obtain ⟨z, hzz⟩ : ∃ z, z = ssizeP r p d := ⟨_, rfl⟩
  have hz2 : z.2 = c := by
    rw [hzz, hcd]; unfold ssizeP
    split
    · rename_i e; rw [e]
    · rfl
  rw [← hzz, ← hcd] at HSZ
  rw [← hzz] at M3
  rw [hz2] at M3
  unfold svalP at M1 M4
  rw [← hv, ← hcd] at M1 M2 M4
  have HSZ := Lib.hid HSZ
  clear HWD HTV HPT htok ht hv hcd hzz hz2
  by_cases hz : c = 0
  case neg =>
    have hz' : (c != 0) = true := by simpa using hz
    have hz'' : (c != c) = false := by simp
    rw [if_neg hz] at M1 M2 M4
    have M1 := Lib.hid M1
    have M2 := Lib.hid M2
    have M3 := Lib.hid M3
    have M4 := Lib.hid M4
    clear hz
    go_wp2_with fail
    refine (M1.out _ (HP.out _ F2.below)).mono ?_
    rintro e w5 ⟨rfl, hb5⟩
    have F5 := F2.step hb5
    obtain ⟨c0, c1, c2, c3, c4, c5, c6, c7, c8⟩ := R.boxc (F5.at 1 rfl)
    obtain ⟨e0, e1, e2⟩ := P.boxc (F5.at 0 rfl)
    have zA : w2.heap.size < w5.heap.size := F5.le 1 rfl
    have zB : w2.heap.size + 1 < w5.heap.size := by have := F5.le 0 rfl; simp at this; omega
    simp only [World.size_alloc] at e0 e1 e2
    clear hb5 F2 M1 HBD
    go_wp2_with fail
    refine (M2.out _ (HP.out _ F5.below)).mono ?_
    rintro e w6 ⟨rfl, hb6⟩
    have F6 := F5.step hb6
    clear c0 c1 c2 c3 c4 c5 c6 c7 c8 e0 e1 e2 zA zB hb6 F5 M2
    obtain ⟨c0, c1, c2, c3, c4, c5, c6, c7, c8⟩ := R.boxc (F6.at 1 rfl)
    obtain ⟨e0, e1, e2⟩ := P.boxc (F6.at 0 rfl)
    have zA : w2.heap.size < w6.heap.size := F6.le 1 rfl
    have zB : w2.heap.size + 1 < w6.heap.size := by have := F6.le 0 rfl; simp at this; omega
    simp only [World.size_alloc] at e0 e1 e2
    go_wp2_with fail
    refine (M3.out _ (HP.out _ F6.below)).mono ?_
    rintro e w7 ⟨rfl, hb7⟩
    have F7 := F6.step hb7
    clear c0 c1 c2 c3 c4 c5 c6 c7 c8 e0 e1 e2 zA zB hb7 F6 M3
    obtain ⟨c0, c1, c2, c3, c4, c5, c6, c7, c8⟩ := R.boxc (F7.at 1 rfl)
    obtain ⟨e0, e1, e2⟩ := P.boxc (F7.at 0 rfl)
    have zA : w2.heap.size < w7.heap.size := F7.le 1 rfl
    have zB : w2.heap.size + 1 < w7.heap.size := by have := F7.le 0 rfl; simp at this; omega
    simp only [World.size_alloc] at e0 e1 e2
    go_wp2_with fail
    refine (MT.out _ (HP.out _ F7.below)).mono ?_
    rintro e w8 ⟨⟨ua, uc, va, vc⟩, rfl, ho8, hb8⟩
    obtain ⟨hc3, hcm3⟩ := own_caps ho8.pits
    have F8 := (F7.step hb8).alloc (t.cells ua uc va vc) 67
    have HR8 := Lib.hid (ho8.row.below (below_alloc1 w8 (.cells (t.cells ua uc va vc) 67)) (Nat.le_refl _))
    have G8 := F7.step hb8
    clear c0 c1 c2 c3 c4 c5 c6 c7 c8 e0 e1 e2 zA zB hb8 ho8 MT
    obtain ⟨c0, c1, c2, c3, c4, c5, c6, c7, c8⟩ := R.boxc (G8.at 1 rfl)
    have zA : w2.heap.size < w8.heap.size := G8.le 1 rfl
    clear G8 F7
    go_wp2_with fail
    refine (M4.out ua va uc vc _ HR8.out hc3 hcm3).mono ?_
    rintro e w9 ⟨rfl, hb9⟩
    have F9 := F8.step hb9
    have B9 := Lib.hid (HW.out _ F9.below)
    clear c0 c1 c2 c3 c4 c5 c6 c7 c8 zA hb9 F8 F9 M4 HR8
    go_wp2
    go_ret
    exact ⟨rfl, B9.out⟩
  subst hz
  obtain ⟨s1, s2⟩ := HSZ.out rfl
  rw [if_pos rfl] at M1 M2 M4
  obtain ⟨z, zc⟩ := z
  dsimp only at s1 s2 M3
  have M1 := Lib.hid M1
  have M2 := Lib.hid M2
  have M3 := Lib.hid M3
  have M4 := Lib.hid M4
  clear HSZ
  go_wp2_with fail
  refine (M1.out _ (HP.out _ F2.below)).mono ?_
  rintro e w5 ⟨rfl, hb5⟩
  have F5 := F2.step hb5
  obtain ⟨c0, c1, c2, c3, c4, c5, c6, c7, c8⟩ := R.boxc (F5.at 1 rfl)
  obtain ⟨e0, e1, e2⟩ := P.boxc (F5.at 0 rfl)
  have zA : w2.heap.size < w5.heap.size := F5.le 1 rfl
  have zB : w2.heap.size + 1 < w5.heap.size := by have := F5.le 0 rfl; simp at this; omega
  simp only [World.size_alloc] at e0 e1 e2
  clear hb5 F2 M1 HBD
  go_wp2_with fail
  refine (M2.out _ (HP.out _ F5.below)).mono ?_
  rintro e w6 ⟨rfl, hb6⟩
  have F6 := F5.step hb6
  clear c0 c1 c2 c3 c4 c5 c6 c7 c8 e0 e1 e2 zA zB hb6 F5 M2
  obtain ⟨c0, c1, c2, c3, c4, c5, c6, c7, c8⟩ := R.boxc (F6.at 1 rfl)
  obtain ⟨e0, e1, e2⟩ := P.boxc (F6.at 0 rfl)
  have zA : w2.heap.size < w6.heap.size := F6.le 1 rfl
  have zB : w2.heap.size + 1 < w6.heap.size := by have := F6.le 0 rfl; simp at this; omega
  simp only [World.size_alloc] at e0 e1 e2
  go_wp2_with fail
  refine (M3.out _ (HP.out _ F6.below)).mono ?_
  rintro e w7 ⟨rfl, hb7⟩
  have F7 := F6.step hb7
  clear c0 c1 c2 c3 c4 c5 c6 c7 c8 e0 e1 e2 zA zB hb7 F6 M3
  obtain ⟨c0, c1, c2, c3, c4, c5, c6, c7, c8⟩ := R.boxc (F7.at 1 rfl)
  obtain ⟨e0, e1, e2⟩ := P.boxc (F7.at 0 rfl)
  have zA : w2.heap.size < w7.heap.size := F7.le 1 rfl
  have zB : w2.heap.size + 1 < w7.heap.size := by have := F7.le 0 rfl; simp at this; omega
  simp only [World.size_alloc] at e0 e1 e2
  go_wp2_with fail
  refine (MT.out _ (HP.out _ F7.below)).mono ?_
  rintro e w8 ⟨⟨ua, uc, va, vc⟩, rfl, ho8, hb8⟩
  obtain ⟨hc3, hcm3⟩ := own_caps ho8.pits
  have F8 := (F7.step hb8).alloc (t.cells ua uc va vc) 67
  have HR8 := Lib.hid (ho8.row.below (below_alloc1 w8 (.cells (t.cells ua uc va vc) 67)) (Nat.le_refl _))
  have G8 := F7.step hb8
  clear c0 c1 c2 c3 c4 c5 c6 c7 c8 e0 e1 e2 zA zB hb8 ho8 MT
  obtain ⟨c0, c1, c2, c3, c4, c5, c6, c7, c8⟩ := R.boxc (G8.at 1 rfl)
  have zA : w2.heap.size < w8.heap.size := G8.le 1 rfl
  clear G8 F7
  go_wp2_with fail
  refine (M4.out ua va uc vc _ HR8.out hc3 hcm3).mono ?_
  rintro e w9 ⟨rfl, hb9⟩
  have F9 := F8.step hb9
  have B9 := Lib.hid (HW.out _ F9.below)
  clear c0 c1 c2 c3 c4 c5 c6 c7 c8 zA hb9 F8 F9 M4 HR8
  obtain ⟨q, hq⟩ : ∃ q, q = min (max v (lo - 6)) (lo - 6 + k) := ⟨_, rfl⟩
  rw [← hq]
  have hq := Lib.hid hq
  have hvv : (v == v) = true := by simp
  have hs2 : decide (z ≤ 3000) = true := decide_eq_true s2
  have hs1 : decide (1 ≤ z) = true := decide_eq_true s1
  by_cases h1 : v < lo - 6
  · have e1 : (q == lo - 6) = true := by rw [hq.out]; simp; omega
    go_wp2
    go_ret
    exact ⟨rfl, B9.out⟩
  · by_cases h2 : v > lo - 6 + k
    · have e1 : (q == lo - 6 + k) = true := by rw [hq.out]; simp; omega
      go_wp2
      go_ret
      exact ⟨rfl, B9.out⟩
    · have e1 : (q == v) = true := by rw [hq.out]; simp; omega
      go_wp2
      go_ret
      exact ⟨rfl, B9.out⟩

set_option maxRecDepth 100000 in
theorem contract (H : Type) (enc : TypeId × Value → H) (W : World) (base : Nat) (args : Array Value) (ds gs : List (DataW H)) (before : List MemPlace)
    (hval : ∀ (j : Nat) t v, Try.f8.params[j]? = some t → args[j]? = some v → Value.okWide Try.prog W .any base t v)
    (hW : DataW.Whole enc Try.prog Try.f8.params.toList Rows.fnWindowsSpec.vars false W args.toList ds gs before) :
    Calls Try.prog 8 args W fun e W' => ∃ v, e = .returned v ∧ Rows.fnWindowsSpec.post enc Try.prog Try.f8 false true false false W args v W' := by
  have hW' := hW
  obtain ⟨p, q, hA0, hV, rfl, hfz, hnd⟩ := hW
  have hA : DataW.TrodAll enc Try.prog W 0 (fun _ => true) true Try.f8.params.toList args.toList ds p := hA0
  rw [Try.params8] at hA hval
  obtain ⟨v0, vs0, d0, ds0, p0, q0, hargs, rfl, rfl, h0, r0⟩ := trodAll_cons hA
  obtain ⟨v1, vs1, d1, ds1, p1, q1, rfl, rfl, rfl, h1, r1⟩ := trodAll_cons r0
  obtain ⟨rfl, rfl, rfl⟩ := trodAll_nil r1
  obtain rfl : args = #[v0, v1] := by cases args; simp_all
  obtain ⟨ba0, bc0, bs0, rfl, w0⟩ := arg_bytes (hval 0 22 v0 rfl rfl) h0
  obtain ⟨ba1, bc1, bs1, rfl, w1⟩ := arg_bytes (hval 1 22 v1 rfl rfl) h1
  refine (walk ba0 ba1 bc0 bc1 bs0 bs1 W w0.2.1 w1.2.1 w0.2.2.2 w1.2.2.2).mono fun e W' ⟨he, hb⟩ => ?_
  subst he
  exact ⟨_, rfl, law_post hW' hb rfl rfl (by kernel_rfl) rfl⟩

set_option maxRecDepth 100000 in
theorem lifted (os : Os) (started : os.Started) (H : Type) (enc : TypeId × Value → H) :
    ReturnsInHanded {} Try.checked os 8 .any (Rows.fnWindowsSpec.pre6 enc Try.prog Try.f8 Rows.fnWindowsRow.domain false) (Rows.fnWindowsSpec.post enc Try.prog Try.f8 false true false false) := by
  refine returnsInHanded_of_change (C := Try.checked) (s := Rows.fnWindowsSpec) own started (by kernel_rfl) Try.func8
    (ChangeSpec.witness6 (enc := enc) (C := Try.checked) (s := Rows.fnWindowsSpec) false ⟨#[], #[.slice none 0 0, .slice none 0 0], []⟩ 8 (by kernel_rfl) (by kernel_rfl) (by kernel_rfl) (by kernel_rfl)) ?_
  intro W base args ds gs before hval hW _ _
  exact contract H enc W base args ds gs before hval hW

theorem proved : Rows.FnWindowsSaid :=
  OpenClaim.holds_of_wide 8 Try.f8 rfl rfl rfl rfl rfl rfl rfl ⟨rfl, rfl, rfl, rfl, rfl⟩ rfl rfl rfl rfl rfl (by kernel_rfl) Try.func8 (by kernel_rfl)
    (of_decide_eq_true (by kernel_rfl)) (by unfold Func.isWrapper; first | (rw [if_pos (by decide +kernel)]; kernel_rfl) | (rw [if_neg (by decide +kernel)]; exact ⟨rfl, rfl⟩))
    (fun os started H enc _ => lifted os started H enc)
end Go.Proofs.Ytbjdfgfebepacaa.lWindows
