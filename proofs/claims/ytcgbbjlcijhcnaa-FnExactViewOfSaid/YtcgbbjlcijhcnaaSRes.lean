/- SRes: the results of all legal moves: the reference's function. The contract holds for every argument, under the premises that it states. -/
import Derived.Test.YtcgbbjlcijhcnaaRes
namespace Go.Proofs.Ytcgbbjlcijhcnaa
set_option linter.unusedSimpArgs false
set_option linter.unusedVariables false
set_option linter.unnecessarySimpa false
open Go.RowKit Go.ChangeShapes Go.WideShapes Go.ChangeAt Go.Joins

/-- a round over the moves -/
structure RaSt (w wr : World) (r : R) (p : P) (j : Nat) (ad : Option Addr) (c hi : Nat) (l : List (Mk × MA)) : Prop where
  jl : (j : Int) ≤ r.pits
  go : l.map Prod.fst = allGo r p j
  lh : w.heap.size ≤ hi
  fr : Fr w wr [⟨w.heap.size, hi, MksP w.heap.size hi ad c l⟩]

set_option maxRecDepth 100000 in
set_option maxHeartbeats 16000000 in
theorem l07All_c (rb ro pb po : Nat) (r : R) (p : P) (hok : p.ok r = true) (pa sa : Option Addr) (pc sc : Nat) (w : World) (hr : R.At w rb ro r) (hp : P.At w pb po p pa pc sa sc) (h : PRow w p pa sa) (m1 : p.pits.length ≤ 16777216) (m2 : p.stores.length ≤ 16777216) :
    Calls Try.prog 59 #[.pointer (some ⟨rb, ro, none⟩), .pointer (some ⟨pb, po, none⟩)] w (MksRes w (allP r p)) := by
  obtain ⟨i0, hi, hz0, hz1, hz2⟩ := info_parts6 infoM
  obtain ⟨hbd, ⟨pn, hpn, hpn1⟩, t, hB, ht0, ht1⟩ := P.ok_parts hok
  have hlo := hbd.lo
  have hhi := hbd.hi
  have hrb : rb < w.heap.size := World.block_lt_of_cell? w _ hr.c0
  have hpb : pb < w.heap.size := World.block_lt_of_cell? w _ hp.c0
  have M0 := mks_none w w.heap.size (by simp)
  have F1 := ((Fr.start w).step (below_alloc1 _ (.cells #[] 71))).mks M0
  simp only [World.size_alloc] at F1
  have hST : Hid (RaSt w (w.alloc (.cells #[] 71)) r p 0 (some ⟨w.heap.size, 0, none⟩) 0 (w.heap.size + 1) []) :=
    ⟨by omega, by simp [allGo], by omega, F1⟩
  have HC : Hid (∀ (m : Int) (W : World), Below w.heap.size w W → Calls Try.prog 79 #[.pointer (some ⟨rb, ro, none⟩), .pointer (some ⟨pb, po, none⟩), .int .i64 m] W (MkRes W (makeP r p m))) := fun m W hW =>
    l07Make_c rb ro pb po r p m pa sa pc sc W (hr.below hW hrb) (hp.below hW hpb) (h.below hW (Nat.le_refl _)) m1 m2
  have HR := Lib.hid hr
  obtain ⟨K, hK⟩ : ∃ K : Nat, K = r.pits.toNat := ⟨_, rfl⟩
  have hKr : r.pits = (K : Int) := by omega
  have HK := Lib.hid hK
  have HKR := Lib.hid hKr
  have HA : Hid (allP r p = allGo r p K) := by unfold Hid allP; rw [HK.out]
  clear M0 F1 hK hKr h hB hpn hr hp
  go_enter Try.func59, Try.ntmps59
  go_wp2_with fail
  go_loopw [5, 6] (fun o i wr => ∃ (j : Nat) (ad : Option Addr) (c hi : Nat) (l : List (Mk × MA)), i = .int .i64 (j : Int) ∧ o = .slice ad l.length c ∧ RaSt w wr r p j ad c hi l) (fun _ i _ => K - (intOf i).toNat)
  case atStart => exact ⟨0, _, 0, _, [], rfl, rfl, hST.out⟩
  case round =>
    clear hST
    obtain ⟨j, ad, c, hi', l, rfl, rfl, hst⟩ := hrel
    have F := hst.fr
    have hjl := hst.jl
    have hgo := hst.go
    have hlh := hst.lh
    have c0 := (HR.out.below F.below hrb).c0
    have HGO := Lib.hid hgo
    have HPM := Lib.hid (F.at 0 rfl)
    clear hst hgo
    by_cases hj : (j : Int) < r.pits
    case neg =>
      have HE : Hid (j = K) := by have := HKR.out; unfold Hid; omega
      go_wp2
      go_ret
      refine ⟨l, ad, c, ?_, rfl, HPM.out.1, F.below⟩
      rw [HA.out, HGO.out, HE.out]
    obtain ⟨y, hy⟩ : ∃ y, y = makeP r p (j : Int) := ⟨_, rfl⟩
    have HY := Lib.hid hy
    have HCJ := Lib.hid (HC.out (j : Int) wr F.below)
    rw [← hy] at HCJ
    clear hy
    go_wp2_with fail
    refine HCJ.out.mono ?_
    rintro e w2 ⟨ua, uc, va, vc, rfl, ho, hb2⟩
    have F2 := F.step hb2
    have hs2 := hb2.size
    have hhi' : hi' ≤ wr.heap.size := F.le 0 rfl
    have hw0 : w.heap.size ≤ wr.heap.size := F.below.size
    clear hb2 HCJ F c0
    by_cases hcz : y.code = 0
    case neg =>
      have hcz' : (y.code == 0) = false := by simpa using hcz
      have HG : Hid (allGo r p (j + 1) = allGo r p j) := allGo_bad (by rw [← HY.out]; exact hcz)
      have F3 := F2.step (below_alloc1 w2 (.cells (y.cells ua uc va vc) 71))
      clear hcz F2
      go_wp2
      go_roundw
      case rel => exact ⟨j + 1, ad, c, hi', l, by go_num, rfl, by omega, by rw [HG.out, HGO.out], hlh, F3⟩
      case measure => (simp [intOf]; have := HKR.out; omega)
    have hcz' : (y.code == 0) = true := by simpa using hcz
    have HG : Hid (allGo r p (j + 1) = allGo r p j ++ [makeP r p j]) := allGo_ok (by rw [← HY.out]; exact hcz)
    have HO := Lib.hid ho
    have B4 : Below w2.heap.size w2 ((w2.alloc (.cells (y.cells ua uc va vc) 71)).alloc (.cells (y.cells ua uc va vc) 71)) := (below_alloc1 w2 _).trans ((below_alloc1 _ _).mono (by simp))
    have F4 := F2.step B4
    have hown := (F4.at 0 rfl).1.row
    have hll : l.length ≤ 100 := by
      have h1 := allGo_len r p j
      rw [← HGO.out, List.length_map] at h1
      omega
    clear ho hcz F2
    go_wp2_with (at_builtin; refine wpList_append_own2 _ rfl _ _ 37 rfl w.heap.size 71 i0 _ 6 80 Try.underlying37 hi hz0 hz1 hz2 rfl (by decide) _ _ _ rfl hown ⟨w2.heap.size + 1, 0, none⟩ 1 1 (y.cells ua uc va vc).toList rfl rfl ?c1 ?c2 ?c3 ?c4 ?c5 ?_)
    case c1 => intro j u hu; match j, hu with | 0, hu | 1, hu | 2, hu | 3, hu | 4, hu | 5, hu => (simp [Mk.cells] at hu; subst hu; simp [Addr.add, Mk.cells])
    case c2 => intro u hu; simp [Mk.cells] at hu; rcases hu with rfl | rfl | rfl | rfl | rfl | rfl <;> rfl
    case c3 => unfold maxLen; omega
    case c4 => omega
    case c5 => (simp; try omega)
    intro ad' c' w4 hown4 hg4 hn4
    have FX := Fr.appM (x := (y, ⟨ua, uc, va, vc⟩)) F4 (Nat.le_refl _) hlh (fun r hr => by cases hr) ((HO.out.below B4 (Nat.le_refl _)).le hhi') hg4 hown4 (by simpa using hn4)
    have HS := Lib.hid FX
    clear hown4 hg4 hn4 hown F4 B4 FX
    go_wp2
    go_roundw
    case rel => exact ⟨j + 1, ad', c', _, l ++ [(y, ⟨ua, uc, va, vc⟩)], by go_num, by simp, by omega, by rw [HG.out, List.map_append, HGO.out, HY.out]; rfl, by have := HS.out.below.size; omega, HS.out⟩
    case measure => (simp [intOf]; have := HKR.out; omega)

end Go.Proofs.Ytcgbbjlcijhcnaa
