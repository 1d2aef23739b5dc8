/- The law FnSearch returns true for every argument, and every argument reads afterwards as before. No conditions. -/
import Derived.Test.YtbjdfgfebepacaaSLV
import Derived.Test.YtbjdfgfebepacaaSrS
import Derived.Test.YtbjdfgfebepacaaDraw1
import Derived.Test.YtbjdfgfebepacaaMoves
import Derived.Deep.CutRange
namespace Go.Proofs.Ytbjdfgfebepacaa.lSearch
set_option linter.unusedSimpArgs false
set_option linter.unusedVariables false
set_option linter.unnecessarySimpa false
open Go.RowKit Go.ChangeShapes Go.WideShapes Go.ChangeAt Go.Joins
open Go.ChangeMaps (open_string)

set_option maxHeartbeats 4000000 in
theorem sEndValue_c (r : R) (p : P) (hok : p.ok r = true) (pa sa : Option Addr) (pc sc : Nat) (w : World) (h : PRow w p pa sa) (m1 : p.pits.length ≤ 16777216) (m2 : p.stores.length ≤ 16777216) :
    Calls Try.prog 70 #[r.val, p.val pa pc sa sc] w fun e w' => e = .returned (.tuple #[.int .i64 (endP r p), .int .i64 0]) ∧ Below w.heap.size w w' := by
  have F0 := ((Fr.start w).alloc r.cells 25).alloc (p.cells pa pc sa sc) 67
  have hr := R.boxc (F0.at 1 rfl)
  have hp : P.At _ (w.alloc (.cells r.cells 25)).heap.size 0 p pa pc sa sc := ⟨F0.at 0 rfl 0 _ rfl, F0.at 0 rfl 1 _ rfl, F0.at 0 rfl 2 _ rfl⟩
  simp only [World.size_alloc] at hp
  have HV := l04Ok_c _ _ _ _ r p pa sa pc sc _ hr hp (h.below F0.below (Nat.le_refl _)) m1 m2
  rw [hok] at HV
  have HV := Lib.hid HV
  have HE := Lib.hid (fun W hr hp H => l15End_c w.heap.size 0 (w.heap.size + 1) 0 r p hok pa sa pc sc W hr hp H)
  have HH := Lib.hid h
  clear hr hp h hok
  go_enter Try.func70, Try.ntmps70
  go_wp2_with fail
  refine HV.out.mono ?_
  rintro e w1 ⟨rfl, m, hm⟩
  have F1 := F0.step (show Below _ _ w1 from hm ▸ below_draws _ _ m)
  have hr := R.boxc (F1.at 1 rfl)
  have hp : P.At _ (w.alloc (.cells r.cells 25)).heap.size 0 p pa pc sa sc := ⟨F1.at 0 rfl 0 _ rfl, F1.at 0 rfl 1 _ rfl, F1.at 0 rfl 2 _ rfl⟩
  simp only [World.size_alloc] at hp
  have HM := Lib.hid (HE.out _ hr hp (HH.out.below F1.below (Nat.le_refl _)))
  clear hm HV HE F0 hr hp
  go_wp2_with fail
  refine HM.out.mono ?_
  rintro e w2 ⟨rfl, m2, hm2⟩
  have HB : Hid (Below w.heap.size w w2) := below_next F1.below (hm2 ▸ below_draws _ _ m2)
  clear hm2 F1 HM
  go_wp2
  go_ret2
  exact ⟨rfl, HB.out⟩

/-- a round along the line -/
structure LwSt (W0 wr : World) (r : R) (ms : List Int) (fin : P) (k : Nat) (q : P) (qa : Option Addr) (qc : Nat) (ta : Option Addr) (tc : Nat) : Prop where
  kl : k ≤ ms.length
  ok : q.ok r = true
  ro : runOk r (ms.drop k) q
  en : runTo r (ms.drop k) q = fin
  lv : LvP wr W0.heap.size q qa qc ta tc
  below : Below W0.heap.size W0 wr

theorem srch5 {r : R} {p : P} {d : Int} (hok : p.ok r = true) (h0 : 0 ≤ d) (h1 : d ≤ 8) (hz : ¬ srchC r p d = 0) : srchC r p d = 5 := by
  unfold srchC at hz ⊢
  rw [if_pos hok, if_pos ⟨h0, h1⟩] at hz ⊢
  split
  · rfl
  · rename_i h
    rw [if_neg h] at hz
    exact absurd rfl hz
theorem ocode_eq {r : R} {p : P} {d : Int} (h0 : ¬ d = 0) : ocodeP r p d = srchC r p d := by
  unfold ocodeP
  rw [if_neg (fun e => h0 e.2)]

set_option maxRecDepth 100000 in
set_option maxHeartbeats 32000000 in
theorem walk (ca da : Option Addr) (cc dc : Nat) (bs ds : List Int) (w : World) (hm1 : bs.length ≤ maxLen) (hm2 : ds.length ≤ maxLen) (hb : bs.length ≤ 4096 → ByteP w.heap.size ca bs w) (hd : ds.length ≤ 4096 → ByteP w.heap.size da ds w) :
    Calls Try.prog 9 #[.slice ca bs.length cc, .slice da ds.length dc] w fun e w' => e = .returned (.bool true) ∧ Below w.heap.size w w' := by
  by_cases hl : 3000 < (bs.length : Int) ∨ 3000 < (ds.length : Int)
  · have HL : (decide (3000 < (bs.length : Int)) || decide (3000 < (ds.length : Int))) = true := by simpa using hl
    clear hb hd hl
    go_enter Try.func9, Try.ntmps9
    go_wp2_with fail
    refine (a2Long_c ca da _ _ cc dc _ hm1 hm2).mono ?_
    rintro e w1 ⟨rfl, rfl⟩
    rw [HL]
    go_wp2
    go_ret
    exact ⟨rfl, Below.refl _ _⟩
  have HB := Lib.hid (hb (by omega))
  have HD := Lib.hid (hd (by omega))
  have HL : (decide (3000 < (bs.length : Int)) || decide (3000 < (ds.length : Int))) = false := by simp; omega
  clear hb hd hl
  go_enter Try.func9, Try.ntmps9
  go_wp2_with fail
  refine (a2Long_c ca da _ _ cc dc _ hm1 hm2).mono ?_
  rintro e w1 ⟨rfl, rfl⟩
  rw [HL]
  clear hm1 hm2 HL
  go_wp2_with fail
  refine (A2Few_c ca cc bs _ HB.out).mono ?_
  rintro e w2 ⟨r, p, A, rfl, hdr, hdp, ho2, hb2⟩
  have hok := hdp.ok hdr
  obtain ⟨lp, ls⟩ := P.ok_lens hok
  obtain ⟨hc, hcm⟩ := own_caps ho2.pits
  have F2 := ((Fr.start w2).alloc r.cells 25).alloc (p.cells A.pa A.pc A.sa A.sc) 67
  have HOK := Lib.hid hok
  have HP : Hid (∀ W, Below w2.heap.size w2 W → PRow W p A.pa A.sa) := fun W hW => ho2.row.below hW (Nat.le_refl _)
  have HPO : Hid (POwn w2 w.heap.size p A.pa A.pc A.sa A.sc) := ho2
  have HW : Hid (∀ W, Below w2.heap.size w2 W → Below w.heap.size w W) := fun W hW => below_next hb2 hW
  have HBD := Lib.hid (HD.out.keep (fun k hk => (HW.out _ F2.below).block k hk))
  clear hok hb2 ho2 HB HD hdr hdp
  go_wp2_with fail
  refine (a2At_c w.heap.size da dc ds 0 4 _ HBD.out (by omega) (by omega) (by omega) (by omega)).mono ?_
  rintro e w4 ⟨d0, rfl, d00, d01, rfl⟩
  obtain ⟨d, hd⟩ : ∃ d, d = 1 + d0 := ⟨_, rfl⟩
  have hwd : IntKind.i64.wrap (1 + d0) = d := by rw [hd]; exact IntWalk.i64_in _ (by omega)
  have hd1 : 1 ≤ d ∧ d ≤ 4 := by omega
  have M1 := fun W h => iSearchValue_c r p d A.pa A.sa A.pc A.sc W h (by omega) (by omega) hc hcm
  have M2 := fun W h => iSearchOptions_c r p d A.pa A.sa A.pc A.sc W h (by omega) (by omega) hc hcm
  have M3 := fun W h => iSearchMove_c r p d A.pa A.sa A.pc A.sc W h (by omega) (by omega) hc hcm
  have M4 := fun W h => iSearchLine_c r p d A.pa A.sa A.pc A.sc W h (by omega) (by omega) hc hcm
  obtain ⟨c, hcd⟩ : ∃ c, c = srchC r p d := ⟨_, rfl⟩
  have hoc : ocodeP r p d = c := by rw [hcd]; exact ocode_eq (by omega)
  clear HBD
  by_cases hz : c = 0
  case neg =>
    have h5 : c = 5 := by rw [hcd]; exact srch5 HOK.out (by omega) (by omega) (by rw [← hcd]; exact hz)
    have hv : svalP r p d = (0, 5) := by rw [svalP, ← hcd, if_neg hz, h5]
    simp only [hv] at M1
    have M1 := Lib.hid M1
    clear hv h5 hz hcd hoc M2 M3 M4 hd
    go_wp2_with fail
    refine (M1.out _ (HP.out _ F2.below)).mono ?_
    rintro e w5 ⟨rfl, hb5⟩
    have HB5 := Lib.hid (HW.out _ (F2.step hb5).below)
    clear hb5 F2 M1
    go_wp2
    go_ret
    exact ⟨rfl, HB5.out⟩
  subst hz
  obtain ⟨D, hDd⟩ : ∃ D : Nat, d = (D : Int) + 1 := ⟨(d - 1).toNat, by omega⟩
  have hv : svalP r p d = (valueP r (D + 1) p, 0) := by rw [svalP, ← hcd, if_pos rfl, hDd]; rfl
  have ho : soptsP r p d = (optsP r p D, 0) := by rw [soptsP, hoc, if_pos rfl, hDd, show ((D : Int) + 1).toNat - 1 = D by omega]
  have hli : slineP r p d = (lineB r (D + 1) p, 0) := by rw [slineP, ← hcd, if_pos rfl, hDd]; rfl
  have HM1 : Hid (optsP r p D = [] → smoveP r p d = (0, 0, 3)) := by
    intro e
    rw [smoveP, hoc, if_pos rfl, hDd, show ((D : Int) + 1).toNat - 1 = D by omega, e]
  have HM2 : Hid (∀ o l, optsP r p D = o :: l → smoveP r p d = ((bestGo l o).1, (bestGo l o).2, 0)) := by
    intro o l e
    rw [smoveP, hoc, if_pos rfl, hDd, show ((D : Int) + 1).toNat - 1 = D by omega, e]
  have hD8 : D + 1 ≤ 8 := by omega
  have HLL := Lib.hid (lineB_len r (D + 1) p)
  have HOL := Lib.hid (optsP_len HOK.out D)
  simp only [hv] at M1
  rw [ho] at M2
  rw [hli] at M4
  obtain ⟨v, hve⟩ : ∃ v, v = valueP r (D + 1) p := ⟨_, rfl⟩
  have HVE := Lib.hid hve
  rw [← hve] at M1
  have HDD := Lib.hid hDd
  have HBD : Hid (-18000 ≤ v ∧ v ≤ 18000) := by
    have := valueP_bd r (D + 1) p HOK.out
    unfold Hid
    omega
  have M1 := Lib.hid M1
  clear hv ho hli hcd hoc hDd hve hd
  go_wp2_with fail
  refine (M1.out _ (HP.out _ F2.below)).mono ?_
  rintro e w5 ⟨rfl, hb5⟩
  have F5 := F2.step hb5
  obtain ⟨c0, c1, c2, c3, c4, c5, c6, c7, c8⟩ := R.boxc (F5.at 1 rfl)
  obtain ⟨e0, e1, e2⟩ := P.boxc (F5.at 0 rfl)
  have zA : w2.heap.size < w5.heap.size := F5.le 1 rfl
  have zB : w2.heap.size + 1 < w5.heap.size := by have := F5.le 0 rfl; simp at this; omega
  simp only [World.size_alloc] at e0 e1 e2
  clear hb5 F2 M1
  cases hos : optsP r p D with
  | nil =>
    have hll : lineB r (D + 1) p = [] := lineB_nil hos
    have hve : v = endP r p := by rw [HVE.out]; exact valueP_nil (optsP_nil hos) _
    rw [hos] at M2
    simp only [HM1.out hos] at M3
    rw [hll] at M4
    have M2 := Lib.hid M2
    have M3 := Lib.hid M3
    have M4 := Lib.hid M4
    have ME := Lib.hid (fun W h => sEndValue_c r p HOK.out A.pa A.sa A.pc A.sc W h (by omega) (by omega))
    have HVE2 := Lib.hid hve
    clear hos hll hve HVE HM1 HM2
    go_wp2_with fail
    refine (M2.out _ (HP.out _ F5.below)).mono ?_
    rintro e w6 ⟨oa, oc, rfl, ho6, hb6⟩
    have F6 := F5.step hb6
    clear c0 c1 c2 c3 c4 c5 c6 c7 c8 e0 e1 e2 zA zB hb6 ho6 F5 M2
    obtain ⟨c0, c1, c2, c3, c4, c5, c6, c7, c8⟩ := R.boxc (F6.at 1 rfl)
    obtain ⟨e0, e1, e2⟩ := P.boxc (F6.at 0 rfl)
    have zA : w2.heap.size < w6.heap.size := F6.le 1 rfl
    have zB : w2.heap.size + 1 < w6.heap.size := by have := F6.le 0 rfl; simp at this; omega
    simp only [World.size_alloc] at e0 e1 e2
    go_wp2_with fail
    refine (M3.out _ (HP.out _ F6.below)).mono ?_
    rintro e w7 ⟨rfl, hb7⟩
    have F7 := F6.step hb7
    clear c0 c1 c2 c3 c4 c5 c6 c7 c8 e0 e1 e2 zA zB hb7 F6 M3
    obtain ⟨c0, c1, c2, c3, c4, c5, c6, c7, c8⟩ := R.boxc (F7.at 1 rfl)
    obtain ⟨e0, e1, e2⟩ := P.boxc (F7.at 0 rfl)
    have zA : w2.heap.size < w7.heap.size := F7.le 1 rfl
    have zB : w2.heap.size + 1 < w7.heap.size := by have := F7.le 0 rfl; simp at this; omega
    simp only [World.size_alloc] at e0 e1 e2
    go_wp2_with fail
    refine (M4.out _ (HP.out _ F7.below)).mono ?_
    rintro e w8 ⟨la, lc, rfl, ho8, hb8⟩
    have F8 := F7.step hb8
    clear c0 c1 c2 c3 c4 c5 c6 c7 c8 e0 e1 e2 zA zB hb8 ho8 F7 M4
    obtain ⟨c0, c1, c2, c3, c4, c5, c6, c7, c8⟩ := R.boxc (F8.at 1 rfl)
    obtain ⟨e0, e1, e2⟩ := P.boxc (F8.at 0 rfl)
    have zA : w2.heap.size < w8.heap.size := F8.le 1 rfl
    have zB : w2.heap.size + 1 < w8.heap.size := by have := F8.le 0 rfl; simp at this; omega
    simp only [World.size_alloc] at e0 e1 e2
    have hd0 : ¬ d < 0 := by omega
    go_wp2_with fail
    refine (ME.out _ (HP.out _ F8.below)).mono ?_
    rintro e w9 ⟨rfl, hb9⟩
    have HB9 := Lib.hid (HW.out _ (F8.step hb9).below)
    have hq : (endP r p == v) = true := by rw [HVE2.out]; simp
    clear c0 c1 c2 c3 c4 c5 c6 c7 c8 e0 e1 e2 zA zB hb9 F8 ME
    go_wp2
    go_ret
    exact ⟨rfl, HB9.out⟩
  | cons o l =>
    have hbv : (bestGo l o).2 = v := by rw [HVE.out]; exact best_value hos
    have hll : lineB r (D + 1) p = (bestGo l o).1 :: lineB r D (nxt (makeP r p (bestGo l o).1)) := lineB_cons hos
    have hfi : ∀ x ∈ o :: l, x.2 ≤ v ∧ (x.2 = v → (bestGo l o).1 ≤ x.1) := by
      have := best_first l o (by rw [← hos]; exact opts_sorted r p D)
      rw [hbv] at this
      exact this
    obtain ⟨n, ht1, ht2, ht3, ht4⟩ := line_told HOK.out hD8
    obtain ⟨hr1, hr2⟩ := line_ok r (D + 1) p HOK.out
    rw [← HVE.out] at ht2 ht3 ht4
    have hl8 := HLL.out
    have hol := HOL.out
    rw [hos] at hol
    obtain ⟨fin, hfin⟩ : ∃ q, q = runTo r (lineB r (D + 1) p) p := ⟨_, rfl⟩
    obtain ⟨ms, hms⟩ : ∃ ms, ms = lineB r (D + 1) p := ⟨_, rfl⟩
    have hhd : ∃ ms', ms = (bestGo l o).1 :: ms' := ⟨_, by rw [hms]; exact hll⟩
    rw [← hfin] at ht2 ht3 ht4 hr2
    rw [← hms] at hfin ht1 hr1 hl8
    have hfb := endP_bd hr2
    have HN : Hid (-20000 ≤ n ∧ n ≤ 20000) := by
      have := HBD.out
      unfold Hid
      cases hcn : canP r fin
      · by_cases e : fin.player = p.player
        · have := ht3 hcn e; omega
        · have := ht4 hcn e; omega
      · have := ht2 hcn; omega
    rw [hos] at M2
    simp only [HM2.out o l hos, hbv] at M3
    rw [← hms] at M4
    obtain ⟨bm, hbm⟩ : ∃ b, b = (bestGo l o).1 := ⟨_, rfl⟩
    rw [← hbm] at M3 hfi hhd
    obtain ⟨os, hoe⟩ : ∃ os, os = o :: l := ⟨_, rfl⟩
    rw [← hoe] at M2 hfi hol
    have hop : 0 < os.length := by rw [hoe]; simp
    have M2 := Lib.hid M2
    have M3 := Lib.hid M3
    have M4 := Lib.hid M4
    have HFI := Lib.hid hfi
    have HT1 := Lib.hid ht1
    have HT := Lib.hid (And.intro ht2 (And.intro ht3 ht4))
    have HR := Lib.hid (And.intro hr1 (And.intro hr2 (And.intro hfin hfb)))
    have HHD := Lib.hid hhd
    clear hos hbv hll hfi ht1 ht2 ht3 ht4 hr1 hr2 hfin hms hhd hfb hbm hoe HVE HLL HOL HM1 HM2
    go_wp2_with fail
    refine (M2.out _ (HP.out _ F5.below)).mono ?_
    rintro e w6 ⟨oa, oc, rfl, ho6, hb6⟩
    have F6 := F5.step hb6
    have HO6 : Hid (∀ W, Below w6.heap.size w6 W → OptOwn W w5.heap.size oa oc os) := fun W hW => own_below ho6 hW (Nat.le_refl _)
    clear c0 c1 c2 c3 c4 c5 c6 c7 c8 e0 e1 e2 zA zB hb6 ho6 F5 M2
    obtain ⟨c0, c1, c2, c3, c4, c5, c6, c7, c8⟩ := R.boxc (F6.at 1 rfl)
    obtain ⟨e0, e1, e2⟩ := P.boxc (F6.at 0 rfl)
    have zA : w2.heap.size < w6.heap.size := F6.le 1 rfl
    have zB : w2.heap.size + 1 < w6.heap.size := by have := F6.le 0 rfl; simp at this; omega
    simp only [World.size_alloc] at e0 e1 e2
    go_wp2_with fail
    refine (M3.out _ (HP.out _ F6.below)).mono ?_
    rintro e w7 ⟨rfl, hb7⟩
    have F7 := F6.step hb7
    have H67 := Lib.hid hb7
    clear c0 c1 c2 c3 c4 c5 c6 c7 c8 e0 e1 e2 zA zB hb7 F6 M3
    obtain ⟨c0, c1, c2, c3, c4, c5, c6, c7, c8⟩ := R.boxc (F7.at 1 rfl)
    obtain ⟨e0, e1, e2⟩ := P.boxc (F7.at 0 rfl)
    have zA : w2.heap.size < w7.heap.size := F7.le 1 rfl
    have zB : w2.heap.size + 1 < w7.heap.size := by have := F7.le 0 rfl; simp at this; omega
    simp only [World.size_alloc] at e0 e1 e2
    go_wp2_with fail
    refine (M4.out _ (HP.out _ F7.below)).mono ?_
    rintro e w8 ⟨la, lc, rfl, ho8, hb8⟩
    have F8 := F7.step hb8
    have HO8 : Hid (∀ W, Below w8.heap.size w8 W → Ints W la ms) := fun W hW => (own_row ho8).below hW (Nat.le_refl _)
    have HO6b : Hid (OptOwn w8 w5.heap.size oa oc os) := HO6.out _ (below_next H67.out hb8)
    clear c0 c1 c2 c3 c4 c5 c6 c7 c8 e0 e1 e2 zA zB hb8 ho8 F7 M4 HO6 H67
    obtain ⟨ms', hmse⟩ := HHD.out
    have hnd : ¬ (ms.length : Int) > d := by have := HDD.out; omega
    have hol0 : ((os.length : Int) == 0) = false := by rw [beq_eq_false_iff_ne]; omega
    have hml0 : ((ms.length : Int) == 0) = false := by rw [beq_eq_false_iff_ne, hmse, List.length_cons]; omega
    have hmp : (0 : Int) < (ms.length : Int) := by rw [hmse, List.length_cons]; omega
    obtain ⟨lb, lo, hla, hlb, hlc⟩ := Ints.open (HO8.out _ (Below.refl _ _)) (show 0 < ms.length by rw [hmse]; simp)
    have hl0 : w8.cell? ⟨lb, lo, none⟩ = some (.int .i64 bm) := by
      have := hlc 0 (by rw [hmse]; simp)
      simp only [Nat.add_zero] at this
      rw [this]
      simp [hmse]
    subst hla
    clear hlc hmse HHD
    go_wp2_with fail
    go_loopw [19] (fun i wr => ∃ (k m : Nat), i = .int .i64 k ∧ k ≤ os.length ∧ Hid (wr = w8.drewN m)) (fun i _ => os.length - (intOf i).toNat)
    case atStart => exact ⟨0, 0, rfl, Nat.zero_le _, rfl⟩
    case round =>
      obtain ⟨k, m, rfl, hk, hwr⟩ := hrel
      obtain rfl := hwr.out
      by_cases hlt : k < os.length
      · obtain ⟨g, hg, _, hgl, hcs⟩ := opt_cells HO6b.out hop
        obtain ⟨x, hx⟩ : ∃ x, os[k]? = some x := ⟨_, List.getElem?_eq_getElem hlt⟩
        obtain ⟨q0, q1⟩ := hcs k x hx
        obtain ⟨f1, f2⟩ := HFI.out x (List.mem_of_getElem? hx)
        have hn1 : ¬ x.2 > v := by omega
        have hki : (k : Int) < (os.length : Int) := by omega
        subst hg
        clear hcs hx
        by_cases hxv : x.2 = v
        · have hx1 : (x.2 == v) = true := by simpa using hxv
          have hn2 : ¬ x.1 < bm := by have := f2 hxv; omega
          clear hxv f1 f2
          go_wp2
          go_roundw
          case rel => exact ⟨k + 1, m, by go_num, by omega, hwr⟩
          case measure => simp [intOf]; omega
        · have hx1 : (x.2 == v) = false := by simpa using hxv
          clear hxv f1 f2
          go_wp2
          go_roundw
          case rel => exact ⟨k + 1, m, by go_num, by omega, hwr⟩
          case measure => simp [intOf]; omega
      · have F9 := F8.drawn m
        obtain ⟨c0, c1, c2, c3, c4, c5, c6, c7, c8⟩ := R.boxc (F9.at 1 rfl)
        obtain ⟨e0, e1, e2⟩ := P.boxc (F9.at 0 rfl)
        have zA : w2.heap.size < (w8.drewN m).heap.size := F9.le 1 rfl
        have zB : w2.heap.size + 1 < (w8.drewN m).heap.size := by have := F9.le 0 rfl; simp only [World.size_alloc] at this; omega
        simp only [World.size_alloc] at e0 e1 e2
        have HMS : Hid (∀ W, Below w8.heap.size w8 W → Ints W (some ⟨lb, lo, none⟩) ms) := HO8.out
        have M5 := fun W h h2 => iLineValue_c r p ms A.pa A.sa (some ⟨lb, lo, none⟩) A.pc A.sc lc W h h2 (by unfold maxLen; omega) (by omega) (by omega) hc hcm
        simp only [HT1.out] at M5
        have M5 := Lib.hid M5
        have B8 : Hid (Below w8.heap.size w8 (w8.drewN m)) := below_draws _ _ m
        clear HFI F8
        generalize hw9 : w8.drewN m = w9 at F9 B8 c0 c1 c2 c3 c4 c5 c6 c7 c8 e0 e1 e2 zA zB ⊢
        clear hw9
        go_wp2_with fail
        refine (M5.out _ (HP.out _ F9.below) (HMS.out _ B8.out)).mono ?_
        rintro e w10 ⟨rfl, hb10⟩
        have F10 := F9.step hb10
        have hz28 : w2.heap.size ≤ w10.heap.size := F10.below.size
        have HPL : Hid (0 < p.pits.length ∧ 0 < p.stores.length) := by
          obtain ⟨hbd, _, t, hB, _, _⟩ := P.ok_parts HOK.out
          have := hbd.lo; have := hB.lp; have := hB.ls
          unfold Hid; omega
        have B10 := Lib.hid (below_next B8.out hb10)
        have F11 := F10.allocF (p.cells A.pa A.pc A.sa A.sc) 67
        obtain ⟨bx, bf⟩ := F11.at 0 rfl
        have hst0 : Hid (LwSt w10 (w10.alloc (.cells (p.cells A.pa A.pc A.sa A.sc) 67)) r ms fin 0 p A.pa A.pc A.sa A.sc) :=
          ⟨Nat.zero_le _, HOK.out, HR.out.1, HR.out.2.2.1.symm, ⟨bx 0 _ rfl, bx 1 _ rfl, bx 2 _ rfl, bf, (arg_rowN HPO.out.row.pits HPL.out.1 hz28).below F11.below (Nat.le_refl _), (arg_rowN HPO.out.row.stores HPL.out.2 hz28).below F11.below (Nat.le_refl _), by omega, by omega, hc, hcm⟩, below_alloc1 _ _⟩
        have HSK : Hid (∀ W, Below w10.heap.size w10 W → Below w.heap.size w W ∧ R.At W w2.heap.size 0 r ∧ P.At W (w2.heap.size + 1) 0 p A.pa A.pc A.sa A.sc ∧ Ints W (some ⟨lb, lo, none⟩) ms) := by
          intro W hW
          have FW := F10.step hW
          obtain ⟨x0, x1, x2⟩ := P.boxc (FW.at 0 rfl)
          simp only [World.size_alloc] at x0 x1 x2
          exact ⟨HW.out _ FW.below, R.boxc (FW.at 1 rfl), ⟨x0, x1, x2⟩, HMS.out _ (below_next B10.out hW)⟩
        have hzz : w2.heap.size + 1 < w10.heap.size := by have := F10.le 0 rfl; simp only [World.size_alloc] at this; omega
        clear c0 c1 c2 c3 c4 c5 c6 c7 c8 e0 e1 e2 zA zB
        obtain ⟨e0, e1, e2⟩ := P.boxc (F10.at 0 rfl)
        simp only [World.size_alloc] at e0 e1 e2
        clear hb10 M5 B8 F9 F10 F11 bx bf HPL HMS HPO HO6b
        go_wp2_with fail
        clear e0 e1 e2
        go_loopw [23] (fun i wr => ∃ (k : Nat) (q : P) (qa ta : Option Addr) (qc tc : Nat), i = .int .i64 k ∧ Hid (LwSt w10 wr r ms fin k q qa qc ta tc)) (fun i _ => ms.length - (intOf i).toNat)
        case atStart => exact ⟨0, p, A.pa, A.sa, A.pc, A.sc, rfl, hst0⟩
        case round =>
          clear hst0
          obtain ⟨k, q, qa, ta, qc, tc, rfl, HST⟩ := hrel
          have hkl := HST.out.kl
          by_cases hk : k < ms.length
          case neg =>
            have hdr : ms.drop k = [] := List.drop_eq_nil_of_le (by omega)
            have hqf : q = fin := by
              have := HST.out.en
              rw [hdr] at this
              exact this
            subst hqf
            obtain ⟨hT2, hT3, hT4⟩ := HT.out
            obtain ⟨hfb0, hfb1⟩ := HR.out.2.2.2
            obtain ⟨hB, hRA, hPA, _⟩ := HSK.out _ HST.out.below
            obtain ⟨c0, c1, c2, c3, c4, c5, c6, c7, c8⟩ := hRA
            obtain ⟨d0, d1, d2⟩ := (⟨HST.out.lv.c0, HST.out.lv.c1, HST.out.lv.c2⟩ : _ ∧ _ ∧ _)
            have hw1 : w10.heap.size < wr.heap.size := World.block_lt_of_cell? wr _ d0
            have zA : w2.heap.size < wr.heap.size := by omega
            have zB : w2.heap.size + 1 < wr.heap.size := by omega
            have MC := sCanMove_c r q qa ta qc tc wr ⟨HST.out.lv.p.1, HST.out.lv.s.1⟩ HST.out.lv.m1 HST.out.lv.m2
            have ME := fun W h => sEndValue_c r q HST.out.ok qa ta qc tc W h HST.out.lv.m1 HST.out.lv.m2
            have HPR : Hid (∀ W, Below wr.heap.size wr W → PRow W q qa ta) := fun W hW => PRow.below ⟨HST.out.lv.p.1, HST.out.lv.s.1⟩ hW (Nat.le_refl _)
            have HLV : Hid (∀ W, Below wr.heap.size wr W → LvP W w10.heap.size q qa qc ta tc) := fun W hW => HST.out.lv.below hW
            have HFX : Hid (∀ W, Below wr.heap.size wr W → Below w.heap.size w W ∧ R.At W w2.heap.size 0 r ∧ P.At W (w2.heap.size + 1) 0 p A.pa A.pc A.sa A.sc) := fun W hW => by
              obtain ⟨y1, y2, y3, _⟩ := HSK.out W (below_next HST.out.below hW)
              exact ⟨y1, y2, y3⟩
            clear hdr hB hPA HSK HST
            cases hcn : canP r q
            · rw [hcn] at MC hT2 hT3 hT4
              have MC := Lib.hid MC
              have ME := Lib.hid ME
              obtain ⟨ev, hev⟩ : ∃ e, e = endP r q := ⟨_, rfl⟩
              rw [← hev] at hT3 hT4 hfb0 hfb1 ME
              have HT3 := Lib.hid (hT3 rfl)
              have HT4 := Lib.hid (hT4 rfl)
              clear hcn hT2 hT3 hT4 hev
              go_wp2_with fail
              refine MC.out.mono ?_
              rintro e w12 ⟨rfl, hb12⟩
              obtain ⟨y1, y2, y3⟩ := HFX.out _ hb12
              have L12 := HLV.out _ hb12
              have hs12 := hb12.size
              have HP12 := Lib.hid (HPR.out _ hb12)
              have HB12 := Lib.hid hb12
              clear c0 c1 c2 c3 c4 c5 c6 c7 c8 d0 d1 d2 zA zB MC hb12 y1 y3
              obtain ⟨c0, c1, c2, c3, c4, c5, c6, c7, c8⟩ := y2
              obtain ⟨d0, d1, d2⟩ := (⟨L12.c0, L12.c1, L12.c2⟩ : _ ∧ _ ∧ _)
              have zA : w2.heap.size < w12.heap.size := by omega
              have zB : w10.heap.size < w12.heap.size := by omega
              clear L12
              go_wp2_with fail
              refine (ME.out _ HP12.out).mono ?_
              rintro e w13 ⟨rfl, hb13⟩
              have hB13 := below_next HB12.out hb13
              obtain ⟨y1, y2, y3⟩ := HFX.out _ hB13
              have L13 := HLV.out _ hB13
              have hs13 := hb13.size
              have HY1 := Lib.hid y1
              clear c0 c1 c2 c3 c4 c5 c6 c7 c8 d0 d1 d2 zA zB ME hb13 y1 y2 hB13
              obtain ⟨e0, e1, e2⟩ := y3
              have d2 := L13.c2
              have zA : w2.heap.size + 1 < w13.heap.size := by omega
              have zB : w10.heap.size < w13.heap.size := by omega
              obtain ⟨hN0, hN1⟩ := HN.out
              clear L13
              by_cases hpl : q.player = p.player
              · have hpl2 : (q.player == p.player) = true := by simpa using hpl
                have hnv := HT3.out hpl
                have hwn : IntKind.i64.wrap (n + ev) = n + ev := IntWalk.i64_in _ (by omega)
                have hq : (n + ev == v) = true := by simpa using hnv
                clear hpl hnv
                go_wp2
                go_ret
                exact ⟨rfl, HY1.out⟩
              · have hpl2 : (q.player == p.player) = false := by simpa using hpl
                have hnv := HT4.out hpl
                have hwn : IntKind.i64.wrap (n - ev) = n - ev := IntWalk.i64_in _ (by omega)
                have hq : (n - ev == v) = true := by simpa using hnv
                clear hpl hnv
                go_wp2
                go_ret
                exact ⟨rfl, HY1.out⟩
            · rw [hcn] at MC hT2
              have MC := Lib.hid MC
              have hnv := hT2 rfl
              clear hcn hT2 hT3 hT4 ME
              have hq : (n == v) = true := by simpa using hnv
              clear hnv
              go_wp2_with fail
              refine MC.out.mono ?_
              rintro e w12 ⟨rfl, hb12⟩
              have HY1 := Lib.hid (HFX.out _ hb12).1
              clear c0 c1 c2 c3 c4 c5 c6 c7 c8 d0 d1 d2 zA zB MC hb12
              go_wp2
              go_ret
              exact ⟨rfl, HY1.out⟩
          obtain ⟨mv, hmv⟩ : ∃ mv, mv = ms[k] := ⟨_, rfl⟩
          obtain ⟨hB, hRA, hPA, hMI⟩ := HSK.out _ HST.out.below
          obtain ⟨b', o', hbe, hbl, hmc⟩ := Ints.open hMI (by omega)
          have hmcell : wr.cell? ⟨lb, lo + k, none⟩ = some (.int .i64 mv) := by
            have := hmc k hk
            cases hbe
            rw [this, hmv]
          have hbl' : lb < wr.heap.size := by cases hbe; exact hbl
          have hdrop : ms.drop k = mv :: ms.drop (k + 1) := by rw [List.drop_eq_getElem_cons hk, ← hmv]
          have hro := HST.out.ro
          have hen := HST.out.en
          rw [hdrop] at hro hen
          obtain ⟨hc0, hro2⟩ := hro
          have hen2 : runTo r (ms.drop (k + 1)) (nxt (makeP r q mv)) = fin := hen
          have hval := makeP_valid hc0
          obtain ⟨hg0, hg1, hg2, hg3⟩ := makeP_gain hc0
          have MM := sMakeMove_c r q mv qa ta qc tc
          have hmk : mkmvP r q mv = (nxt (makeP r q mv), (makeP r q mv).gain, 0) := by rw [mkmvP, hc0]; rfl
          obtain ⟨nq, hnq⟩ : ∃ x, x = nxt (makeP r q mv) := ⟨_, rfl⟩
          obtain ⟨gn, hgn⟩ : ∃ x, x = (makeP r q mv).gain := ⟨_, rfl⟩
          have hg2' : nq.pits.length ≤ 16777216 := by rw [hnq]; exact hg2
          have hg3' : nq.stores.length ≤ 16777216 := by rw [hnq]; exact hg3
          rw [← hnq] at hro2 hen2 hval hmk
          rw [← hgn] at hmk
          simp only [hmk] at MM
          have HMM := Lib.hid (fun W (H : PRow W q qa ta) => MM W H HST.out.lv.m1 HST.out.lv.m2)
          have HNX := Lib.hid (And.intro hro2 (And.intro hen2 hval))
          have HPQ : Hid (PRow wr q qa ta) := ⟨HST.out.lv.p.1, HST.out.lv.s.1⟩
          obtain ⟨c0, c1, c2, c3, c4, c5, c6, c7, c8⟩ := hRA
          obtain ⟨d0, d1, d2⟩ := (⟨HST.out.lv.c0, HST.out.lv.c1, HST.out.lv.c2⟩ : _ ∧ _ ∧ _)
          have hw1 : w10.heap.size < wr.heap.size := World.block_lt_of_cell? wr _ d0
          have zA : w2.heap.size < wr.heap.size := by omega
          have hkm : (k : Int) < (ms.length : Int) := by omega
          clear hmv hB hPA hMI hbe hbl hmc hdrop hen hc0 hro2 hen2 hval hg0 hg1 hg2 hg3 hmk hnq hgn MM
          go_upto_region 28 with fail
          go_cut [24, 25, 26] from 174 to 184 (fun s24 s25 s26 wx => ∃ (nb0 : Nat) (A0 : A2) (lo0 hi0 : Nat), s24 = .pointer (some ⟨nb0, 0, none⟩) ∧ s25 = .int .i64 gn ∧ s26 = .int .i64 0 ∧ wr.heap.size ≤ nb0 ∧ wr.heap.size ≤ lo0 ∧ (hi0 ≤ nb0 ∨ nb0 + 1 ≤ lo0) ∧ Fr wr wx [⟨nb0, nb0 + 1, BoxP nb0 (nq.cells A0.pa A0.pc A0.sa A0.sc).toList⟩, ⟨lo0, hi0, PosP lo0 hi0 nq A0.pa A0.pc A0.sa A0.sc⟩])
          case first =>
            go_region_held3 (fun w' => ∀ b o, b < wr.heap.size → w'.cell? ⟨b, o, none⟩ = wr.cell? ⟨b, o, none⟩)
              ((intro b o hbo; refine Below.cell (B := wr.heap.size) ?_ (show (Addr.mk b o none).block < _ from hbo); first | (with_reducible exact G4.below) | (with_reducible exact G4.below.alloc G4.below.size _) | (with_reducible exact (Fr.start wr).drew.below) | (with_reducible exact ((Fr.start wr).allocF _ _).drew.below) | (repeat (first | (with_reducible exact G4.below) | ((with_reducible refine Below.setCell ?_ ?_ _); rotate_left; (simp <;> omega))))))
              (first
              | (go_at_call 72; first | (refine (HMM.out _ (HPQ.out.below (Fr.start wr).drew.below (Nat.le_refl _))).mono ?_) | (refine (HMM.out _ (HPQ.out.below ((Fr.start wr).allocF _ _).drew.below (Nat.le_refl _))).mono ?_)
                 rintro e w4 ⟨B4, rfl, ho4, hb4⟩
                 first | (have G4 := (Fr.start wr).drew.step hb4) | (have G4 := ((Fr.start wr).allocF #[.slice none 0 0, .slice none 0 0, .int .i64 0] 67).drew.step hb4)
                 have s4 := hb4.size
                 try simp only [World.size_alloc, World.size_drew] at s4
                 try (obtain ⟨bx, bf⟩ := G4.at 0 rfl; have x0 := bx 0 _ rfl; have x1 := bx 1 _ rfl; have x2 := bx 2 _ rfl; try simp only [World.size_alloc, World.size_drew] at x0 x1 x2 bf)))
            all_goals (go_wp2_with fail)
            all_goals go_meet
            all_goals
              try simp only [World.size_alloc, World.size_drew] at ho4
              have FF := ((Fr.start wr).step G4.below).pos ho4
              first
              | (refine ⟨_, B4, _, _, rfl, rfl, rfl, ?_, ?_, ?_, FF.alloc (nq.cells B4.pa B4.pc B4.sa B4.sc) 67⟩ <;> (first | omega | (left; omega) | (simp <;> omega)))
              | (refine ⟨_, B4, _, _, rfl, rfl, rfl, ?_, ?_, ?_, FF.stored3 ?_ ?_ x0 x1 x2⟩ <;> (first | omega | (right; omega) | (simp <;> omega)))
          case rest =>
          obtain ⟨nb0, A0, lo0, hi0, rfl, rfl, rfl, n01, n02, n03, F5⟩ := hcut
          clear c0 c1 c2 c3 c4 c5 c6 c7 c8 d0 d1 d2 zA hmcell
          obtain ⟨f0, f1, f2⟩ := P.boxc (F5.at 0 rfl)
          have hso := (F5.at 1 rfl).1
          have L5 := HST.out.lv.below F5.below
          have HB5 := Lib.hid (below_next HST.out.below F5.below)
          have hs5 := F5.below.size
          have zC : nb0 < wc.heap.size := F5.le 0 rfl
          have hfz := L5.fz
          obtain ⟨d0, d1, d2⟩ := (⟨L5.c0, L5.c1, L5.c2⟩ : _ ∧ _ ∧ _)
          have hnb : ¬ nb0 = w10.heap.size := by omega
          have zD : w10.heap.size < wc.heap.size := by omega
          have HLS := Lib.hid (L5.store (y := ⟨nq.pits, nq.stores, nq.player⟩) hso (by omega) hg2' hg3')
          clear F5 L5 hso HST HMM HPQ
          go_wp2
          go_roundw
          case rel =>
            refine ⟨k + 1, nq, A0.pa, A0.sa, A0.pc, A0.sc, by go_num, ⟨by omega, HNX.out.2.2, HNX.out.1, HNX.out.2.1, HLS.out, ?_⟩⟩
            have k0 := HB5.out
            repeat (first | (with_reducible exact k0) | ((with_reducible refine Below.setCell ?_ ?_ _); rotate_left; (simp <;> omega)))
          case measure => simp [intOf]; omega

set_option maxRecDepth 100000 in
theorem contract (H : Type) (enc : TypeId × Value → H) (W : World) (base : Nat) (args : Array Value) (ds gs : List (DataW H)) (before : List MemPlace)
    (hval : ∀ (j : Nat) t v, Try.f9.params[j]? = some t → args[j]? = some v → Value.okWide Try.prog W .any base t v)
    (hW : DataW.Whole enc Try.prog Try.f9.params.toList Rows.fnSearchSpec.vars false W args.toList ds gs before) :
    Calls Try.prog 9 args W fun e W' => ∃ v, e = .returned v ∧ Rows.fnSearchSpec.post enc Try.prog Try.f9 false true false false W args v W' := by
  have hW' := hW
  obtain ⟨p, q, hA0, hV, rfl, hfz, hnd⟩ := hW
  have hA : DataW.TrodAll enc Try.prog W 0 (fun _ => true) true Try.f9.params.toList args.toList ds p := hA0
  rw [Try.params9] at hA hval
  obtain ⟨v0, vs0, d0, ds0, p0, q0, hargs, rfl, rfl, h0, r0⟩ := trodAll_cons hA
  obtain ⟨v1, vs1, d1, ds1, p1, q1, rfl, rfl, rfl, h1, r1⟩ := trodAll_cons r0
  obtain ⟨rfl, rfl, rfl⟩ := trodAll_nil r1
  obtain rfl : args = #[v0, v1] := by cases args; simp_all
  obtain ⟨ba0, bc0, bs0, rfl, w0⟩ := arg_bytes (hval 0 22 v0 rfl rfl) h0
  obtain ⟨ba1, bc1, bs1, rfl, w1⟩ := arg_bytes (hval 1 22 v1 rfl rfl) h1
  refine (walk ba0 ba1 bc0 bc1 bs0 bs1 W w0.2.1 w1.2.1 w0.2.2.2 w1.2.2.2).mono fun e W' ⟨he, hb⟩ => ?_
  subst he
  exact ⟨_, rfl, law_post hW' hb rfl rfl (by kernel_rfl) rfl⟩

set_option maxRecDepth 100000 in
theorem lifted (os : Os) (started : os.Started) (H : Type) (enc : TypeId × Value → H) :
    ReturnsInHanded {} Try.checked os 9 .any (Rows.fnSearchSpec.pre6 enc Try.prog Try.f9 Rows.fnSearchRow.domain false) (Rows.fnSearchSpec.post enc Try.prog Try.f9 false true false false) := by
  refine returnsInHanded_of_change (C := Try.checked) (s := Rows.fnSearchSpec) own started (by kernel_rfl) Try.func9
    (ChangeSpec.witness6 (enc := enc) (C := Try.checked) (s := Rows.fnSearchSpec) false ⟨#[], #[.slice none 0 0, .slice none 0 0], []⟩ 8 (by kernel_rfl) (by kernel_rfl) (by kernel_rfl) (by kernel_rfl)) ?_
  intro W base args ds gs before hval hW _ _
  exact contract H enc W base args ds gs before hval hW

theorem proved : Rows.FnSearchSaid :=
  OpenClaim.holds_of_wide 9 Try.f9 rfl rfl rfl rfl rfl rfl rfl ⟨rfl, rfl, rfl, rfl, rfl⟩ rfl rfl rfl rfl rfl (by kernel_rfl) Try.func9 (by kernel_rfl)
    (of_decide_eq_true (by kernel_rfl)) (by unfold Func.isWrapper; first | (rw [if_pos (by decide +kernel)]; kernel_rfl) | (rw [if_neg (by decide +kernel)]; exact ⟨rfl, rfl⟩))
    (fun os started H enc _ => lifted os started H enc)
end Go.Proofs.Ytbjdfgfebepacaa.lSearch
