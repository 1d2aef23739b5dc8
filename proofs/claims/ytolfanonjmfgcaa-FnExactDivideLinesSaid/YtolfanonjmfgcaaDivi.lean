/- Divi: how many lines there are behind each move: both sides. Each contract holds for every argument, under the premises that it states. -/
import Derived.Test.YtolfanonjmfgcaaSCnt
namespace Go.Proofs.Ytolfanonjmfgcaa
set_option linter.unusedSimpArgs false
set_option linter.unusedVariables false
set_option linter.unnecessarySimpa false
open Go.RowKit Go.ChangeShapes Go.WideShapes Go.ChangeAt Go.Joins

def divGo (r : R) (D : Nat) : List Mk → List Int → List Int
  | [], cs => cs
  | x :: l, cs => divGo r D l (cs.set x.move.toNat (cntT r D (nxt x)))
def divL (r : R) (p : P) (D : Nat) : List Int := divGo r D (allP r p) (List.replicate r.pits.toNat 0)
def divP (r : R) (p : P) (d : Int) : List Int × Int := if srchC r p d = 0 then (if d = 0 then ([], 2) else (divL r p (d.toNat - 1), 0)) else ([], srchC r p d)
theorem divGo_len (r : R) (D : Nat) : ∀ (l : List Mk) (cs : List Int), (divGo r D l cs).length = cs.length
  | [], cs => rfl
  | x :: l, cs => by simp only [divGo]; rw [divGo_len r D l]; simp
theorem divP_len (r : R) (p : P) (d : Int) : (divP r p d).1.length ≤ 1048576 := by
  unfold divP
  split
  · rename_i hz
    split
    · simp
    · obtain ⟨hok, _⟩ := srchC_zero hz
      have := (P.ok_parts hok).1.hi
      simp only [divL]
      rw [divGo_len]
      simp
      omega
  · simp
theorem allP_lt {r : R} {p : P} {x : Mk} (h : x ∈ allP r p) : ∃ m : Nat, x.move = (m : Int) ∧ m < r.pits.toNat := by
  obtain ⟨m, hmr, hm⟩ := List.mem_filterMap.1 h
  have hlt := List.mem_range.1 hmr
  unfold mkO at hm
  split at hm
  · rename_i hc
    have hx : makeP r p m = x := by simpa using hm
    refine ⟨m, ?_, hlt⟩
    rw [← hx, makeP_ok (by rw [← makeP_code]; exact hc)]
  · cases hm
/-- a round over the results -/
structure DvSt (w wr : World) (r : R) (D L : Nat) (l : List (Mk × MA)) (ad : Option Addr) (c g ob k : Nat) (cs tgt : List Int) : Prop where
  kl : k ≤ l.length
  go : divGo r D ((l.drop k).map Prod.fst) cs = tgt
  cl : cs.length = L
  out : wr.ownsRow (w.heap.size + 1 + 1) 2 1 (.slice (some ⟨ob, 0, none⟩) L L) L (cs.map (Value.int .i64))
  own : MksOwn wr (ob + 1) ad c l
  box : BoxP g (mcells l) wr
  rx : BoxP w.heap.size r.cells.toList wr
  below : Below w.heap.size w wr
theorem DvSt.next {w wr W : World} {r : R} {D L : Nat} {l : List (Mk × MA)} {ad : Option Addr} {c g ob k : Nat} {cs tgt : List Int} (h : DvSt w wr r D L l ad c g ob k cs tgt) (hb : Below wr.heap.size wr W) : DvSt w W r D L l ad c g ob k cs tgt :=
  ⟨h.kl, h.go, h.cl, own_below h.out hb (Nat.le_refl _), h.own.below hb (Nat.le_refl _), h.box.below hb, h.rx.below hb, below_next h.below hb⟩
theorem divGo_at (r : R) (D : Nat) (l : List (Mk × MA)) (k : Nat) (cs : List Int) (x : Mk × MA) (hx : l[k]? = some x) (mv : Nat) (hm : x.1.move = (mv : Int)) : divGo r D ((l.drop k).map Prod.fst) cs = divGo r D ((l.drop (k + 1)).map Prod.fst) (cs.set mv (cntT r D (nxt x.1))) := by
  obtain ⟨hk, he⟩ := List.getElem?_eq_some_iff.1 hx
  rw [List.drop_eq_getElem_cons hk, he]
  simp only [List.map_cons, divGo]
  rw [hm, Int.toNat_natCast]
theorem run_makeE (r : R) (E : Nat) (hE : r.pits = ((E + 1 : Nat) : Int)) (hE7 : E ≤ 7) (W : World) : (Instr.makeSlice 24 (.int .i64 r.pits) (.int .i64 r.pits)).run Try.prog W = .ok (.slice (some ⟨W.heap.size, 0, none⟩) (E + 1) (E + 1)) (W.alloc (.cells (madeCells #[.int .i64 0] (E + 1)) 2)) := by
  obtain ⟨i0, hi, hz0, hz1, hz2⟩ := info_parts infoI
  rw [hE]
  have h1 := run_make (P := Try.prog) W 24 2 i0 (.int .i64 0) Try.underlying24 hi hz0 .i64 .i64 ((E + 1 : Nat) : Int) ((E + 1 : Nat) : Int) (by omega) (Int.le_refl _) (by rw [hz2]; omega) (by omega)
  rw [Int.toNat_natCast, hz1, Nat.mul_one] at h1
  exact h1

set_option maxRecDepth 100000 in
set_option maxHeartbeats 16000000 in
theorem iDivideLines_c (r : R) (p : P) (d : Int) (pa sa : Option Addr) (pc sc : Nat) (w : World) (h : PRow w p pa sa) (m1 : p.pits.length ≤ 16777216) (m2 : p.stores.length ≤ 16777216) (hc : p.pits.length ≤ pc) (hcm : pc ≤ maxLen) :
    Calls Try.prog 9 #[r.val, p.val pa pc sa sc, .int .i64 d] w (IntsRes2 w (divP r p d)) := by
  have F0 := ((Fr.start w).alloc r.cells 30).alloc (p.cells pa pc sa sc) 32
  have HC := fun W (H : PRow W p pa sa) => searchCode_c r p d pa sa pc sc W H m1 m2 hc hcm
  obtain ⟨c, hcd⟩ : ∃ c, c = srchC r p d := ⟨_, rfl⟩
  rw [← hcd] at HC
  have HC := Lib.hid HC
  obtain ⟨y, hy⟩ : ∃ y, y = divP r p d := ⟨_, rfl⟩
  rw [← hy]
  by_cases hz : c = 0
  case neg =>
    have HE : Hid (y = ([], c)) := by unfold Hid; rw [hy, divP, ← hcd, if_neg hz]
    have hz' : (c != 0) = true := by simpa using hz
    clear hcd hy hz
    go_enter Try.func9, Try.ntmps9
    go_wp2_with fail
    refine (HC.out _ (h.below F0.below (Nat.le_refl _))).mono ?_
    rintro e w1 ⟨rfl, hb1⟩
    have F1 := F0.step hb1
    clear hb1 F0
    go_wp2
    go_ret2
    rw [HE.out]
    exact ⟨none, 0, rfl, World.ownsRow_nil _ _ _ _, F1.below⟩
  have hz' : (c != 0) = false := by simpa using hz
  by_cases hd : d = 0
  · have hd0 : (d == 0) = true := by simpa using hd
    have HE : Hid (y = ([], 2)) := by unfold Hid; rw [hy, divP, ← hcd, if_pos hz, if_pos hd]
    clear hcd hy hz hd
    go_enter Try.func9, Try.ntmps9
    go_wp2_with fail
    refine (HC.out _ (h.below F0.below (Nat.le_refl _))).mono ?_
    rintro e w1 ⟨rfl, hb1⟩
    have F1 := F0.step hb1
    clear hb1 F0
    go_wp2
    go_ret2
    rw [HE.out]
    exact ⟨none, 0, rfl, World.ownsRow_nil _ _ _ _, F1.below⟩
  have hd0 : (d == 0) = false := by simpa using hd
  obtain ⟨hok, D0, hdD0, hD0, _⟩ := srchC_zero (by rw [← hcd]; exact hz)
  obtain ⟨D, hdD, hD⟩ : ∃ D : Nat, d = (D : Int) + 1 ∧ D ≤ 7 := ⟨D0 - 1, by omega, by omega⟩
  have hbd := (P.ok_parts hok).1
  obtain ⟨E, hE, hE7⟩ : ∃ E : Nat, r.pits = ((E + 1 : Nat) : Int) ∧ E ≤ 7 := ⟨r.pits.toNat - 1, by have := hbd.lo; omega, by have := hbd.hi; omega⟩
  have HY : Hid (y = (divGo r D (allP r p) (List.replicate (E + 1) 0), 0)) := by
    unfold Hid
    rw [hy, divP, ← hcd, if_pos hz, if_neg hd, divL, hdD, hE, Int.toNat_natCast, show ((D : Int) + 1).toNat - 1 = D by omega]
  have HMK := Lib.hid (fun W => run_makeE r E hE hE7 W)
  have hmk := HMK.out
  have HRR := Lib.hid (fun W (H : PRow W p pa sa) => results_c r p hok pa sa pc sc W H m1 m2 hc hcm)
  have HLN := Lib.hid (allP_len8 hok)
  have HV := Lib.hid (fun x (hx : x ∈ allP r p) => allP_valid hx)
  have HLT : Hid (∀ x ∈ allP r p, ∃ m : Nat, x.move = (m : Int) ∧ m < E + 1) := fun x hx => by
    obtain ⟨m, h1, h2⟩ := allP_lt hx
    rw [hE, Int.toNat_natCast] at h2
    exact ⟨m, h1, h2⟩
  have hsb : d - 1 = (D : Int) := by omega
  have hwb : IntKind.i64.wrap (D : Int) = (D : Int) := IntWalk.i64_in _ (by omega)
  have hwb2 : IntKind.i64.wrap (d - 1) = (D : Int) := by rw [hsb]; exact hwb
  clear hcd hy hz hd hok hdD0 hD0 hdD hbd hE
  go_enter Try.func9, Try.ntmps9
  go_wp2_with fail
  refine (HC.out _ (h.below F0.below (Nat.le_refl _))).mono ?_
  rintro e w1 ⟨rfl, hb1⟩
  have F1 := F0.step hb1
  obtain ⟨c0, c1, c2, c3, c4, c5, c6, c7, c8⟩ := R.boxc (F1.at 1 rfl)
  obtain ⟨e0, e1, e2⟩ := P.boxc (F1.at 0 rfl)
  have zA : w.heap.size < w1.heap.size := F1.le 1 rfl
  have zB : w.heap.size + 1 < w1.heap.size := by have := F1.le 0 rfl; simp at this; omega
  simp only [World.size_alloc] at e0 e1 e2
  have r1 := made_row w1 (w.heap.size + 1 + 1) E (by omega) (by omega)
  have F2 := F1.step (below_alloc1 w1 (.cells (madeCells #[.int .i64 0] (E + 1)) 2))
  have HR1 := Lib.hid r1
  clear hb1 F0 r1
  go_wp2_with fail
  refine (HRR.out _ (h.below F2.below (Nat.le_refl _))).mono ?_
  rintro e w2 ⟨l, ad, cc, hl, rfl, ho, hb2⟩
  have F3 := F2.step hb2
  have HL := Lib.hid hl
  have hll : l.length ≤ 8 := by
    have h1 := HLN.out
    rw [← HL.out, List.length_map] at h1
    exact h1
  obtain ⟨g, hbox, hg0, hgd⟩ := mks_box ho hb2.size
  have HGD := Lib.hid hgd
  simp only [World.size_alloc] at hg0
  have hst0 : Hid (DvSt w w2 r D (E + 1) l ad cc g w1.heap.size 0 (List.replicate (E + 1) 0) y.1) := by
    refine ⟨Nat.zero_le _, by rw [List.drop_zero, HL.out, HY.out], by simp, own_below HR1.out hb2 (Nat.le_refl _), ho.le (by first | (simp; done) | (simp; omega)), hbox, F3.at 1 rfl, F3.below⟩
  have HY2 : Hid (y.2 = 0) := by unfold Hid; rw [HY.out]
  have HVX := Lib.hid (fun x (hx : x ∈ l) => HV.out x.1 (by rw [← HL.out]; exact List.mem_map_of_mem hx))
  have HLX := Lib.hid (fun x (hx : x ∈ l) => HLT.out x.1 (by rw [← HL.out]; exact List.mem_map_of_mem hx))
  obtain ⟨ob, hob⟩ : ∃ ob, ob = w1.heap.size := ⟨_, rfl⟩
  rw [← hob] at hst0 hg0 ⊢
  have hwo : w.heap.size + 1 < ob := by omega
  clear hb2 hl ho F1 F2 F3 hbox hgd HV HLT HRR HR1 c0 c1 c2 c3 c4 c5 c6 c7 c8 e0 e1 e2 hob hmk zA zB
  go_wp2_with fail
  go_loopw [28] (fun i wr => ∃ (k : Nat) (cs : List Int), i = .int .i64 k ∧ DvSt w wr r D (E + 1) l ad cc g ob k cs y.1) (fun i _ => l.length - (intOf i).toNat)
  case atStart => exact ⟨0, _, rfl, hst0.out⟩
  case round =>
    clear hst0
    obtain ⟨k, cs, rfl, hst⟩ := hrel
    have HST := Lib.hid hst
    have hkl := hst.kl
    clear hst
    by_cases hk : k < l.length
    case neg =>
      have hki : ¬ (k : Int) < (l.length : Int) := by omega
      have HT : Hid (y = (cs, 0)) := by
        have h1 := HST.out.go
        rw [List.drop_eq_nil_of_le (by omega)] at h1
        exact Prod.ext h1.symm HY2.out
      have HCL := Lib.hid HST.out.cl
      go_wp2
      go_ret2
      rw [HT.out]
      have ho := HST.out.out
      refine ⟨some ⟨ob, 0, none⟩, E + 1, by rw [HCL.out]; rfl, ?_, HST.out.below⟩
      unfold OwnI
      rw [HCL.out]
      exact ownsRow_le ho (by omega)
    obtain ⟨x, hx⟩ : ∃ x, l[k]? = some x := ⟨l[k], by simp [hk]⟩
    have hxm : x ∈ l := List.mem_of_getElem? hx
    obtain ⟨mv, hmv, hml⟩ := HLX.out x hxm
    obtain ⟨q0, q1, q2, q3, q4, q5⟩ := box_cells HST.out.box hx
    rw [hmv] at q0
    obtain rfl := HGD.out (by omega)
    have hki : (k : Int) < (l.length : Int) := by omega
    have hgl : g < wr.heap.size := World.block_lt_of_cell? wr _ q0
    have hrl : w.heap.size < wr.heap.size := World.block_lt_of_cell? wr _ (R.boxc HST.out.rx).c0
    have hol : ob < wr.heap.size := (HST.out.out.lt ob rfl).2
    have hnA : ¬ w.heap.size = ob := by omega
    have hnB : ¬ wr.heap.size = ob := by omega
    have hgo : ¬ g = ob := by omega
    have hcap := own_caps (HST.out.own.items x hxm).1.pits
    have hVN := HVX.out x hxm
    have hB5 : Below wr.heap.size wr (wr.alloc (.cells #[.int .i64 (mv : Int), .int .i64 x.1.gain, .bool x.1.again, .slice x.2.pa x.1.pits.length x.2.pc, .slice x.2.sa x.1.stores.length x.2.sc, .int .i64 x.1.player] 52)) := below_alloc1 wr _
    have HB5 := Lib.hid hB5
    have HCC := Lib.hid (countLines_c r D (by omega) (nxt x.1) hVN x.2.pa x.2.sa x.2.pc x.2.sc _ ((HST.out.own.items x hxm).1.row.below hB5.drew (Nat.le_refl _)) hcap.1 hcap.2)
    have HG := Lib.hid (divGo_at r D l k cs x hx mv hmv)
    obtain ⟨v, hv⟩ : ∃ v, v = cntT r D (nxt x.1) := ⟨_, rfl⟩
    rw [← hv] at HCC HG
    have FB := (((Fr.from (w0 := wr) (Below.refl _ _)).box HST.out.rx hrl).step hB5)
    obtain ⟨c0, c1, c2, c3, c4, c5, c6, c7, c8⟩ := R.boxc (FB.at 0 rfl)
    have FX := (Fr.start wr).alloc #[.int .i64 (mv : Int), .int .i64 x.1.gain, .bool x.1.again, .slice x.2.pa x.1.pits.length x.2.pc, .slice x.2.sa x.1.stores.length x.2.sc, .int .i64 x.1.player] 52
    obtain ⟨x0, x1, x2, x3, x4, x5⟩ := (⟨FX.at 0 rfl 0 _ rfl, FX.at 0 rfl 1 _ rfl, FX.at 0 rfl 2 _ rfl, FX.at 0 rfl 3 _ rfl, FX.at 0 rfl 4 _ rfl, FX.at 0 rfl 5 _ rfl⟩ : _ ∧ _ ∧ _ ∧ _ ∧ _ ∧ _)
    have hmi : (mv : Int) < ((E + 1 : Nat) : Int) := by omega
    have hmi2 : (mv : Int) < (E : Int) + 1 := by omega
    have HML := Lib.hid hml
    clear hx hv hVN hcap hxm hmv
    go_wp2_with fail
    have hzX : (wr.alloc (.cells #[.int .i64 (mv : Int), .int .i64 x.1.gain, .bool x.1.again, .slice x.2.pa x.1.pits.length x.2.pc, .slice x.2.sa x.1.stores.length x.2.sc, .int .i64 x.1.player] 52)).heap.size = wr.heap.size + 1 := by simp
    have HKP : Hid (∀ W : World, (∀ o, W.cell? ⟨w.heap.size, o, none⟩ = (wr.alloc (.cells #[.int .i64 (mv : Int), .int .i64 x.1.gain, .bool x.1.again, .slice x.2.pa x.1.pits.length x.2.pc, .slice x.2.sa x.1.stores.length x.2.sc, .int .i64 x.1.player] 52)).cell? ⟨w.heap.size, o, none⟩) → (∀ o, W.cell? ⟨wr.heap.size, o, none⟩ = (wr.alloc (.cells #[.int .i64 (mv : Int), .int .i64 x.1.gain, .bool x.1.again, .slice x.2.pa x.1.pits.length x.2.pc, .slice x.2.sa x.1.stores.length x.2.sc, .int .i64 x.1.player] 52)).cell? ⟨wr.heap.size, o, none⟩) → (W.cell? ⟨w.heap.size, 0, none⟩ = some (.int .i64 r.pits) ∧ W.cell? ⟨w.heap.size, 1, none⟩ = some (.int .i64 r.seeds) ∧ W.cell? ⟨w.heap.size, 2, none⟩ = some (.bool r.stores) ∧ W.cell? ⟨w.heap.size, 3, none⟩ = some (.bool r.skip) ∧ W.cell? ⟨w.heap.size, 4, none⟩ = some (.bool r.relay) ∧ W.cell? ⟨w.heap.size, 5, none⟩ = some (.bool r.feed) ∧ W.cell? ⟨w.heap.size, 6, none⟩ = some (.bool r.again) ∧ W.cell? ⟨w.heap.size, 7, none⟩ = some (.int .i64 r.capture) ∧ W.cell? ⟨w.heap.size, 8, none⟩ = some (.int .i64 r.slam) ∧ W.cell? ⟨wr.heap.size, 0, none⟩ = some (.int .i64 (mv : Int)) ∧ W.cell? ⟨wr.heap.size, 1, none⟩ = some (.int .i64 x.1.gain) ∧ W.cell? ⟨wr.heap.size, 2, none⟩ = some (.bool x.1.again) ∧ W.cell? ⟨wr.heap.size, 3, none⟩ = some (.slice x.2.pa x.1.pits.length x.2.pc) ∧ W.cell? ⟨wr.heap.size, 4, none⟩ = some (.slice x.2.sa x.1.stores.length x.2.sc) ∧ W.cell? ⟨wr.heap.size, 5, none⟩ = some (.int .i64 x.1.player))) := fun W H1 H2 =>
      ⟨(H1 _).trans c0, (H1 _).trans c1, (H1 _).trans c2, (H1 _).trans c3, (H1 _).trans c4, (H1 _).trans c5, (H1 _).trans c6, (H1 _).trans c7, (H1 _).trans c8, (H2 _).trans x0, (H2 _).trans x1, (H2 _).trans x2, (H2 _).trans x3, (H2 _).trans x4, (H2 _).trans x5⟩
    clear c0 c1 c2 c3 c4 c5 c6 c7 c8 x0 x1 x2 x3 x4 x5 q0 q1 q2 q3 q4 q5 FB FX
    generalize hXd : (wr.alloc (.cells #[.int .i64 (mv : Int), .int .i64 x.1.gain, .bool x.1.again, .slice x.2.pa x.1.pits.length x.2.pc, .slice x.2.sa x.1.stores.length x.2.sc, .int .i64 x.1.player] 52)) = X at *
    refine heldH (S := fun W => W.cell? ⟨w.heap.size, 0, none⟩ = some (.int .i64 r.pits) ∧ W.cell? ⟨w.heap.size, 1, none⟩ = some (.int .i64 r.seeds) ∧ W.cell? ⟨w.heap.size, 2, none⟩ = some (.bool r.stores) ∧ W.cell? ⟨w.heap.size, 3, none⟩ = some (.bool r.skip) ∧ W.cell? ⟨w.heap.size, 4, none⟩ = some (.bool r.relay) ∧ W.cell? ⟨w.heap.size, 5, none⟩ = some (.bool r.feed) ∧ W.cell? ⟨w.heap.size, 6, none⟩ = some (.bool r.again) ∧ W.cell? ⟨w.heap.size, 7, none⟩ = some (.int .i64 r.capture) ∧ W.cell? ⟨w.heap.size, 8, none⟩ = some (.int .i64 r.slam) ∧ W.cell? ⟨wr.heap.size, 0, none⟩ = some (.int .i64 (mv : Int)) ∧ W.cell? ⟨wr.heap.size, 1, none⟩ = some (.int .i64 x.1.gain) ∧ W.cell? ⟨wr.heap.size, 2, none⟩ = some (.bool x.1.again) ∧ W.cell? ⟨wr.heap.size, 3, none⟩ = some (.slice x.2.pa x.1.pits.length x.2.pc) ∧ W.cell? ⟨wr.heap.size, 4, none⟩ = some (.slice x.2.sa x.1.stores.length x.2.sc) ∧ W.cell? ⟨wr.heap.size, 5, none⟩ = some (.int .i64 x.1.player)) (n := 11) (listed := #[false, false, false, false, false, false, false, false, false, false, false]) (by kernel_rfl) (by rfl) (by rfl) ?_ (fun hHeld => ?_)
    (focus ((try dsimp only); (first | done | ((first | exact HKP.out _ (fun o => (cell_other hnA).trans (hcB _ _ (by omega))) (fun o => (cell_other hnB).trans (hcB _ _ (by omega))) | exact HKP.out _ (fun o => hcB _ _ (by omega)) (fun o => hcB _ _ (by omega)) | exact HKP.out _ (fun o => rfl) (fun o => rfl)); done))))
    (refine takeH (i := 0) (v := ?_) (by decide +kernel) (by decide +kernel) (by kernel_rfl) (by rfl) (by exact fun _ _ _ h => h) (by rfl) ?_ (by assumption) ?_); rotate_left; (focus (intro w hSw; (try dsimp only at hSw); go_simp; (try with_reducible rfl); done)); (try simp only [Act.put, List.setIfInBounds_toArray, List.set_cons_zero, List.set_cons_succ])
    (refine takeH (i := 1) (v := ?_) (by decide +kernel) (by decide +kernel) (by kernel_rfl) (by rfl) (by exact fun _ _ _ h => h) (by rfl) ?_ (by assumption) ?_); rotate_left; (focus (intro w hSw; (try dsimp only at hSw); go_simp; (try with_reducible rfl); done)); (try simp only [Act.put, List.setIfInBounds_toArray, List.set_cons_zero, List.set_cons_succ])
    (refine takeH (i := 2) (v := ?_) (by decide +kernel) (by decide +kernel) (by kernel_rfl) (by rfl) (by exact fun _ _ _ h => h) (by rfl) ?_ (by assumption) ?_); rotate_left; (focus (intro w hSw; (try dsimp only at hSw); go_simp; (try with_reducible rfl); done)); (try simp only [Act.put, List.setIfInBounds_toArray, List.set_cons_zero, List.set_cons_succ])
    (refine takeH (i := 3) (v := ?_) (by decide +kernel) (by decide +kernel) (by kernel_rfl) (by rfl) (by exact fun _ _ _ h => h) (by rfl) ?_ (by assumption) ?_); rotate_left; (focus (intro w hSw; (try dsimp only at hSw); go_simp; (try with_reducible rfl); done)); (try simp only [Act.put, List.setIfInBounds_toArray, List.set_cons_zero, List.set_cons_succ])
    (refine takeH (i := 4) (v := ?_) (by decide +kernel) (by decide +kernel) (by kernel_rfl) (by rfl) (by exact fun _ _ _ h => h) (by rfl) ?_ (by assumption) ?_); rotate_left; (focus (intro w hSw; (try dsimp only at hSw); go_simp; (try with_reducible rfl); done)); (try simp only [Act.put, List.setIfInBounds_toArray, List.set_cons_zero, List.set_cons_succ])
    (refine takeH (i := 5) (v := ?_) (by decide +kernel) (by decide +kernel) (by kernel_rfl) (by rfl) (by exact fun _ _ _ h => h) (by rfl) ?_ (by assumption) ?_); rotate_left; (focus (intro w hSw; (try dsimp only at hSw); go_simp; (try with_reducible rfl); done)); (try simp only [Act.put, List.setIfInBounds_toArray, List.set_cons_zero, List.set_cons_succ])
    (refine takeH (i := 6) (v := ?_) (by decide +kernel) (by decide +kernel) (by kernel_rfl) (by rfl) (by exact fun _ _ _ h => h) (by rfl) ?_ (by assumption) ?_); rotate_left; (focus (intro w hSw; (try dsimp only at hSw); go_simp; (try with_reducible rfl); done)); (try simp only [Act.put, List.setIfInBounds_toArray, List.set_cons_zero, List.set_cons_succ])
    (refine takeH (i := 7) (v := ?_) (by decide +kernel) (by decide +kernel) (by kernel_rfl) (by rfl) (by exact fun _ _ _ h => h) (by rfl) ?_ (by assumption) ?_); rotate_left; (focus (intro w hSw; (try dsimp only at hSw); go_simp; (try with_reducible rfl); done)); (try simp only [Act.put, List.setIfInBounds_toArray, List.set_cons_zero, List.set_cons_succ])
    refine nextH (i := 8) (by decide +kernel) (by rfl) (by rfl) (fun K hK => ?_)
    go_simp
    (first | (go_at_call 27; (refine HCC.out.mono ?_); (rintro e w3 ⟨rfl, hb3⟩); (have hcB : ∀ b o, b < wr.heap.size + 1 → w3.cell? ⟨b, o, none⟩ = X.cell? ⟨b, o, none⟩ := fun b o h => (bcell hb3).1 b o (by simpa [hzX] using h)); (have HB9 : Hid (Below wr.heap.size wr w3) := below_next HB5.out.drew hb3); (have hown3 := own_below HST.out.out HB9.out (Nat.le_refl _)); (have hfz := hown3.frozenAt mv); (have hcv : ∃ u, w3.cell? ⟨ob, mv, none⟩ = some (.int .i64 u) := ⟨_, row_getI hown3 HST.out.cl mv (by rw [HST.out.cl]; exact HML.out)⟩); (obtain ⟨u, hcv⟩ := hcv); (have hcX := (hcB ob mv (by omega)).symm.trans hcv)) | skip)
    refine hK.out _ _ ?_ (fun hHeld' => ?_)
    (focus ((try dsimp only); (first | done | ((first | exact HKP.out _ (fun o => (cell_other hnA).trans (hcB _ _ (by omega))) (fun o => (cell_other hnB).trans (hcB _ _ (by omega))) | exact HKP.out _ (fun o => hcB _ _ (by omega)) (fun o => hcB _ _ (by omega)) | exact HKP.out _ (fun o => rfl) (fun o => rfl)); done))))
    clear hK K hHeld
    have hHeld := hHeld'
    clear hHeld'
    (try simp only [Act.put, List.setIfInBounds_toArray, List.set_cons_zero, List.set_cons_succ])
    (refine takeH (i := 9) (v := ?_) (by decide +kernel) (by decide +kernel) (by kernel_rfl) (by rfl) (by exact fun _ _ _ h => h) (by rfl) ?_ (by assumption) ?_); rotate_left; (focus (intro w hSw; (try dsimp only at hSw); go_simp; (try with_reducible rfl); done)); (try simp only [Act.put, List.setIfInBounds_toArray, List.set_cons_zero, List.set_cons_succ])
    refine nextH (i := 10) (by decide +kernel) (by rfl) (by rfl) (fun K hK => ?_)
    go_simp
    (first | (go_at_call 27; (refine HCC.out.mono ?_); (rintro e w3 ⟨rfl, hb3⟩); (have hcB : ∀ b o, b < wr.heap.size + 1 → w3.cell? ⟨b, o, none⟩ = X.cell? ⟨b, o, none⟩ := fun b o h => (bcell hb3).1 b o (by simpa [hzX] using h)); (have HB9 : Hid (Below wr.heap.size wr w3) := below_next HB5.out.drew hb3); (have hown3 := own_below HST.out.out HB9.out (Nat.le_refl _)); (have hfz := hown3.frozenAt mv); (have hcv : ∃ u, w3.cell? ⟨ob, mv, none⟩ = some (.int .i64 u) := ⟨_, row_getI hown3 HST.out.cl mv (by rw [HST.out.cl]; exact HML.out)⟩); (obtain ⟨u, hcv⟩ := hcv); (have hcX := (hcB ob mv (by omega)).symm.trans hcv)) | skip)
    refine hK.out _ _ ?_ (fun hHeld' => ?_)
    (focus ((try dsimp only); (first | done | ((first | exact HKP.out _ (fun o => (cell_other hnA).trans (hcB _ _ (by omega))) (fun o => (cell_other hnB).trans (hcB _ _ (by omega))) | exact HKP.out _ (fun o => hcB _ _ (by omega)) (fun o => hcB _ _ (by omega)) | exact HKP.out _ (fun o => rfl) (fun o => rfl)); done))))
    clear hK K hHeld
    have hHeld := hHeld'
    clear hHeld'
    (try simp only [Act.put, List.setIfInBounds_toArray, List.set_cons_zero, List.set_cons_succ])
    refine wpAnyH_done (by decide +kernel) ?_ _
    have HN : Hid (DvSt w (w3.setCell ⟨ob, mv, none⟩ (.int .i64 v)) r D (E + 1) l (some ⟨g, 0, none⟩) cc g ob (k + 1) (cs.set mv v) y.1) := by
      have hC := chg_set w3 ob mv (.int .i64 v)
      have hs := (hown3.stored mv (.int .i64 v)).1
      rw [← List.map_set] at hs
      exact ⟨by omega, by rw [← HG.out]; exact HST.out.go, by rw [List.length_set]; exact HST.out.cl, hs, hC.mksOwn (HST.out.own.below HB9.out (Nat.le_refl _)) (by omega), hC.boxP (HST.out.box.below HB9.out) hgo, hC.boxP (HST.out.rx.below HB9.out) hnA, (below_next HST.out.below HB9.out).setCell (by simp; omega) _⟩
    clear HCC hcB hb3 hown3 hcv hcX hfz hHeld hXd HB5
    go_wp2
    go_roundw
    case rel =>
      first
      | exact ⟨k + 1, cs.set mv v, by go_num, HN.out⟩
      | exact ⟨k + 1, cs.set mv v, by go_num, HN.out.next (Below.refl _ _).drew⟩
      | ((repeat apply Exists.intro); exact ⟨⟨k + 1, cs.set mv v, by go_num, HN.out⟩, rfl⟩)
    case measure => (simp [intOf]; omega)

set_option maxRecDepth 100000 in
set_option maxHeartbeats 16000000 in
theorem sDivideLines_c (r : R) (p : P) (d : Int) (pa sa : Option Addr) (pc sc : Nat) (w : World) (h : PRow w p pa sa) (m1 : p.pits.length ≤ 16777216) (m2 : p.stores.length ≤ 16777216) :
    Calls Try.prog 6 #[r.val, p.val pa pc sa sc, .int .i64 d] w (IntsRes2 w (divP r p d)) := by
  have F0 := ((Fr.start w).alloc r.cells 30).alloc (p.cells pa pc sa sc) 32
  have hr := R.boxc (F0.at 1 rfl)
  have hp : P.At _ (w.alloc (.cells r.cells 30)).heap.size 0 p pa pc sa sc := ⟨F0.at 0 rfl 0 _ rfl, F0.at 0 rfl 1 _ rfl, F0.at 0 rfl 2 _ rfl⟩
  simp only [World.size_alloc] at hp
  have HC := l22Code_c _ _ _ _ r p d pa sa pc sc _ hr hp (h.below F0.below (Nat.le_refl _)) m1 m2
  obtain ⟨c, hcd⟩ : ∃ c, c = srchC r p d := ⟨_, rfl⟩
  rw [← hcd] at HC
  have HC := Lib.hid HC
  obtain ⟨y, hy⟩ : ∃ y, y = divP r p d := ⟨_, rfl⟩
  rw [← hy]
  by_cases hz : c = 0
  case neg =>
    have HE : Hid (y = ([], c)) := by unfold Hid; rw [hy, divP, ← hcd, if_neg hz]
    have hz' : (c != 0) = true := by simpa using hz
    have hz2 : (c == 0) = false := by simpa using hz
    clear hcd hy hz hr hp
    go_enter Try.func6, Try.ntmps6
    go_wp2_with fail
    refine HC.out.mono ?_
    rintro e w1 ⟨rfl, hb1⟩
    have F1 := F0.step hb1
    clear hb1 F0 HC
    go_wp2
    go_ret2
    rw [HE.out]
    exact ⟨none, 0, rfl, World.ownsRow_nil _ _ _ _, F1.below⟩
  have hz' : (c != 0) = false := by simpa using hz
  have hz2 : (c == 0) = true := by simpa using hz
  by_cases hd : d = 0
  · have hd0 : (d == 0) = true := by simpa using hd
    have HE : Hid (y = ([], 2)) := by unfold Hid; rw [hy, divP, ← hcd, if_pos hz, if_pos hd]
    clear hcd hy hz hd hr hp
    go_enter Try.func6, Try.ntmps6
    go_wp2_with fail
    refine HC.out.mono ?_
    rintro e w1 ⟨rfl, hb1⟩
    have F1 := F0.step hb1
    clear hb1 F0 HC
    go_wp2
    go_ret2
    rw [HE.out]
    exact ⟨none, 0, rfl, World.ownsRow_nil _ _ _ _, F1.below⟩
  have hd0 : (d == 0) = false := by simpa using hd
  obtain ⟨hok, D0, hdD0, hD0, _⟩ := srchC_zero (by rw [← hcd]; exact hz)
  obtain ⟨D, hdD, hD⟩ : ∃ D : Nat, d = (D : Int) + 1 ∧ D ≤ 7 := ⟨D0 - 1, by omega, by omega⟩
  have hbd := (P.ok_parts hok).1
  obtain ⟨E, hE, hE7⟩ : ∃ E : Nat, r.pits = ((E + 1 : Nat) : Int) ∧ E ≤ 7 := ⟨r.pits.toNat - 1, by have := hbd.lo; omega, by have := hbd.hi; omega⟩
  have HY : Hid (y = (divGo r D (allP r p) (List.replicate (E + 1) 0), 0)) := by
    unfold Hid
    rw [hy, divP, ← hcd, if_pos hz, if_neg hd, divL, hdD, hE, Int.toNat_natCast, show ((D : Int) + 1).toNat - 1 = D by omega]
  have HMK := Lib.hid (fun W => run_makeE r E hE hE7 W)
  have hmk := HMK.out
  have HRR := Lib.hid (fun W hr hp (H : PRow W p pa sa) => l07All_c w.heap.size 0 (w.heap.size + 1) 0 r p hok pa sa pc sc W hr hp H m1 m2)
  have HLN := Lib.hid (allP_len8 hok)
  have HV := Lib.hid (fun x (hx : x ∈ allP r p) => allP_valid hx)
  have HLT : Hid (∀ x ∈ allP r p, ∃ m : Nat, x.move = (m : Int) ∧ m < E + 1) := fun x hx => by
    obtain ⟨m, h1, h2⟩ := allP_lt hx
    rw [hE, Int.toNat_natCast] at h2
    exact ⟨m, h1, h2⟩
  have hsb : d - 1 = (D : Int) := by omega
  have hwb : IntKind.i64.wrap (D : Int) = (D : Int) := IntWalk.i64_in _ (by omega)
  have hwb2 : IntKind.i64.wrap (d - 1) = (D : Int) := by rw [hsb]; exact hwb
  clear hcd hy hz hd hok hdD0 hD0 hdD hbd hE hr hp
  go_enter Try.func6, Try.ntmps6
  go_wp2_with fail
  refine HC.out.mono ?_
  rintro e w1 ⟨rfl, hb1⟩
  have F1 := F0.step hb1
  obtain ⟨c0, c1, c2, c3, c4, c5, c6, c7, c8⟩ := R.boxc (F1.at 1 rfl)
  have zA : w.heap.size < w1.heap.size := F1.le 1 rfl
  have zB : w.heap.size + 1 < w1.heap.size := by have := F1.le 0 rfl; simp at this; omega
  have r1 := made_row w1 (w.heap.size + 1 + 1) E (by omega) (by omega)
  have F2 := F1.step (below_alloc1 w1 (.cells (madeCells #[.int .i64 0] (E + 1)) 2))
  have HR1 := Lib.hid r1
  have hr2 := R.boxc (F2.at 1 rfl)
  have hp2 : P.At (w1.alloc (.cells (madeCells #[.int .i64 0] (E + 1)) 2)) (w.alloc (.cells r.cells 30)).heap.size 0 p pa pc sa sc := ⟨F2.at 0 rfl 0 _ rfl, F2.at 0 rfl 1 _ rfl, F2.at 0 rfl 2 _ rfl⟩
  simp only [World.size_alloc] at hp2
  have HAL := Lib.hid (HRR.out _ hr2 hp2 (h.below F2.below (Nat.le_refl _)))
  clear hb1 F0 r1 hr2 hp2 HC HRR
  go_wp2_with fail
  refine HAL.out.mono ?_
  rintro e w2 ⟨l, ad, cc, hl, rfl, ho, hb2⟩
  have F3 := F2.step hb2
  have HL := Lib.hid hl
  have hll : l.length ≤ 8 := by
    have h1 := HLN.out
    rw [← HL.out, List.length_map] at h1
    exact h1
  obtain ⟨g, hbox, hg0, hgd⟩ := mks_box ho hb2.size
  have HGD := Lib.hid hgd
  simp only [World.size_alloc] at hg0
  have hst0 : Hid (DvSt w w2 r D (E + 1) l ad cc g w1.heap.size 0 (List.replicate (E + 1) 0) y.1) := by
    refine ⟨Nat.zero_le _, by rw [List.drop_zero, HL.out, HY.out], by simp, own_below HR1.out hb2 (Nat.le_refl _), ho.le (by first | (simp; done) | (simp; omega)), hbox, F3.at 1 rfl, F3.below⟩
  have HY2 : Hid (y.2 = 0) := by unfold Hid; rw [HY.out]
  have HVX := Lib.hid (fun x (hx : x ∈ l) => HV.out x.1 (by rw [← HL.out]; exact List.mem_map_of_mem hx))
  have HLX := Lib.hid (fun x (hx : x ∈ l) => HLT.out x.1 (by rw [← HL.out]; exact List.mem_map_of_mem hx))
  obtain ⟨ob, hob⟩ : ∃ ob, ob = w1.heap.size := ⟨_, rfl⟩
  rw [← hob] at hst0 hg0 ⊢
  have hwo : w.heap.size + 1 < ob := by omega
  clear hb2 hl ho F1 F2 F3 hbox hgd HV HLT HR1 c0 c1 c2 c3 c4 c5 c6 c7 c8 hob hmk zA zB HAL
  go_wp2_with fail
  go_loopw [11] (fun i wr => ∃ (k : Nat) (cs : List Int), i = .int .i64 k ∧ DvSt w wr r D (E + 1) l ad cc g ob k cs y.1) (fun i _ => l.length - (intOf i).toNat)
  case atStart => exact ⟨0, _, rfl, hst0.out⟩
  case round =>
    clear hst0
    obtain ⟨k, cs, rfl, hst⟩ := hrel
    have HST := Lib.hid hst
    have hkl := hst.kl
    clear hst
    by_cases hk : k < l.length
    case neg =>
      have hki : ¬ (k : Int) < (l.length : Int) := by omega
      have HT : Hid (y = (cs, 0)) := by
        have h1 := HST.out.go
        rw [List.drop_eq_nil_of_le (by omega)] at h1
        exact Prod.ext h1.symm HY2.out
      have HCL := Lib.hid HST.out.cl
      go_wp2
      go_ret2
      rw [HT.out]
      have ho := HST.out.out
      refine ⟨some ⟨ob, 0, none⟩, E + 1, by rw [HCL.out]; rfl, ?_, HST.out.below⟩
      unfold OwnI
      rw [HCL.out]
      exact ownsRow_le ho (by omega)
    obtain ⟨x, hx⟩ : ∃ x, l[k]? = some x := ⟨l[k], by simp [hk]⟩
    have hxm : x ∈ l := List.mem_of_getElem? hx
    obtain ⟨mv, hmv, hml⟩ := HLX.out x hxm
    obtain ⟨q0, q1, q2, q3, q4, q5⟩ := box_cells HST.out.box hx
    rw [hmv] at q0
    obtain rfl := HGD.out (by omega)
    have hki : (k : Int) < (l.length : Int) := by omega
    have hgl : g < wr.heap.size := World.block_lt_of_cell? wr _ q0
    have hrl : w.heap.size < wr.heap.size := World.block_lt_of_cell? wr _ (R.boxc HST.out.rx).c0
    have hol : ob < wr.heap.size := (HST.out.out.lt ob rfl).2
    have hnA : ¬ w.heap.size = ob := by omega
    have hgo : ¬ g = ob := by omega
    have hVN := HVX.out x hxm
    have HCC := Lib.hid (l22Count_c w.heap.size 0 g (k * 6 + 3) r (nxt x.1) hVN D (by omega) x.2.pa x.2.sa x.2.pc x.2.sc wr (R.boxc HST.out.rx) ⟨q3, q4, q5⟩ (HST.out.own.items x hxm).1.row)
    have HG := Lib.hid (divGo_at r D l k cs x hx mv hmv)
    have HLEN := Lib.hid (cntL_len r (nxt x.1) D)
    have HGT : Hid (∀ h : D < (cntL r (nxt x.1) D).length, (cntL r (nxt x.1) D)[D] = cntT r D (nxt x.1)) := fun h => by simp [cntL]
    obtain ⟨v, hv⟩ : ∃ v, v = cntT r D (nxt x.1) := ⟨_, rfl⟩
    rw [← hv] at HG HGT
    obtain ⟨xs, hxs⟩ : ∃ xs, xs = cntL r (nxt x.1) D := ⟨_, rfl⟩
    rw [← hxs] at HCC HLEN HGT
    have hmi : (mv : Int) < ((E + 1 : Nat) : Int) := by omega
    have hmi2 : (mv : Int) < (E : Int) + 1 := by omega
    have HML := Lib.hid hml
    have HQ0 := Lib.hid q0
    clear hx hv hVN hxm hmv hxs q0 q1 q2 q3 q4 q5
    go_wp2_with fail
    refine HCC.out.mono ?_
    rintro e w3 ⟨cb, eb, rfl, hoc, hoe, hb3⟩
    have HB9 := Lib.hid hb3
    have hDx : D < xs.length := by have := HLEN.out; omega
    have hcell : w3.cell? ⟨cb, D, none⟩ = some (.int .i64 v) := by
      have h1 := row_getI (L := xs.length) hoc rfl D hDx
      rw [HGT.out hDx] at h1
      exact h1
    have hcbl : wr.heap.size ≤ cb := (hoc.lt cb rfl).1
    have hcb : ¬ cb = ob := by omega
    have hDi : (D : Int) < (xs.length : Int) := by omega
    have q0 : w3.cell? ⟨g, k * 6, none⟩ = some (.int .i64 (mv : Int)) := ((bcell hb3).1 g (k * 6) hgl).trans HQ0.out
    have hown3 := own_below HST.out.out hb3 (Nat.le_refl _)
    have hfz := hown3.frozenAt mv
    have hcv : ∃ u, w3.cell? ⟨ob, mv, none⟩ = some (.int .i64 u) := ⟨_, row_getI hown3 HST.out.cl mv (by rw [HST.out.cl]; exact HML.out)⟩
    obtain ⟨u, hcv⟩ := hcv
    have HN : Hid (DvSt w (w3.setCell ⟨ob, mv, none⟩ (.int .i64 v)) r D (E + 1) l (some ⟨g, 0, none⟩) cc g ob (k + 1) (cs.set mv v) y.1) := by
      have hC := chg_set w3 ob mv (.int .i64 v)
      have hs := (hown3.stored mv (.int .i64 v)).1
      rw [← List.map_set] at hs
      exact ⟨by omega, by rw [← HG.out]; exact HST.out.go, by rw [List.length_set]; exact HST.out.cl, hs, hC.mksOwn (HST.out.own.below HB9.out (Nat.le_refl _)) (by omega), hC.boxP (HST.out.box.below HB9.out) hgo, hC.boxP (HST.out.rx.below HB9.out) hnA, (below_next HST.out.below HB9.out).setCell (by simp; omega) _⟩
    clear HCC hb3 hoc hoe hown3
    go_wp2_with fail
    refine heldH (S := fun W => W.cell? ⟨g, k * 6, none⟩ = some (.int .i64 (mv : Int)) ∧ W.cell? ⟨cb, D, none⟩ = some (.int .i64 v)) (n := 13) (listed := #[false, false, false, false, false, false, false, false, false, false, false, false, false]) (by kernel_rfl) (by rfl) (by rfl) ?_ (fun hHeld => ?_)
    (focus ((try dsimp only); (first | done | ((first | exact ⟨q0, hcell⟩ | exact ⟨(cell_other hgo).trans q0, (cell_other hcb).trans hcell⟩); done))))
    (refine takeH (i := 0) (v := ?_) (by decide +kernel) (by decide +kernel) (by kernel_rfl) (by rfl) (by exact fun _ _ _ h => h) (by rfl) ?_ (by assumption) ?_); rotate_left; (focus (intro w hSw; (try dsimp only at hSw); go_simp; (try with_reducible rfl); done)); (try simp only [Act.put, List.setIfInBounds_toArray, List.set_cons_zero, List.set_cons_succ])
    (refine takeH (i := 1) (v := ?_) (by decide +kernel) (by decide +kernel) (by kernel_rfl) (by rfl) (by exact fun _ _ _ h => h) (by rfl) ?_ (by assumption) ?_); rotate_left; (focus (intro w hSw; (try dsimp only at hSw); go_simp; (try with_reducible rfl); done)); (try simp only [Act.put, List.setIfInBounds_toArray, List.set_cons_zero, List.set_cons_succ])
    (refine takeH (i := 2) (v := ?_) (by decide +kernel) (by decide +kernel) (by kernel_rfl) (by rfl) (by exact fun _ _ _ h => h) (by rfl) ?_ (by assumption) ?_); rotate_left; (focus (intro w hSw; (try dsimp only at hSw); go_simp; (try with_reducible rfl); done)); (try simp only [Act.put, List.setIfInBounds_toArray, List.set_cons_zero, List.set_cons_succ])
    (refine takeH (i := 3) (v := ?_) (by decide +kernel) (by decide +kernel) (by kernel_rfl) (by rfl) (by exact fun _ _ _ h => h) (by rfl) ?_ (by assumption) ?_); rotate_left; (focus (intro w hSw; (try dsimp only at hSw); go_simp; (try with_reducible rfl); done)); (try simp only [Act.put, List.setIfInBounds_toArray, List.set_cons_zero, List.set_cons_succ])
    (refine takeH (i := 4) (v := ?_) (by decide +kernel) (by decide +kernel) (by kernel_rfl) (by rfl) (by exact fun _ _ _ h => h) (by rfl) ?_ (by assumption) ?_); rotate_left; (focus (intro w hSw; (try dsimp only at hSw); go_simp; (try with_reducible rfl); done)); (try simp only [Act.put, List.setIfInBounds_toArray, List.set_cons_zero, List.set_cons_succ])
    (refine takeH (i := 5) (v := ?_) (by decide +kernel) (by decide +kernel) (by kernel_rfl) (by rfl) (by exact fun _ _ _ h => h) (by rfl) ?_ (by assumption) ?_); rotate_left; (focus (intro w hSw; (try dsimp only at hSw); go_simp; (try with_reducible rfl); done)); (try simp only [Act.put, List.setIfInBounds_toArray, List.set_cons_zero, List.set_cons_succ])
    (refine takeH (i := 6) (v := ?_) (by decide +kernel) (by decide +kernel) (by kernel_rfl) (by rfl) (by exact fun _ _ _ h => h) (by rfl) ?_ (by assumption) ?_); rotate_left; (focus (intro w hSw; (try dsimp only at hSw); go_simp; (try with_reducible rfl); done)); (try simp only [Act.put, List.setIfInBounds_toArray, List.set_cons_zero, List.set_cons_succ])
    (refine takeH (i := 7) (v := ?_) (by decide +kernel) (by decide +kernel) (by kernel_rfl) (by rfl) (by exact fun _ _ _ h => h) (by rfl) ?_ (by assumption) ?_); rotate_left; (focus (intro w hSw; (try dsimp only at hSw); go_simp; (try with_reducible rfl); done)); (try simp only [Act.put, List.setIfInBounds_toArray, List.set_cons_zero, List.set_cons_succ])
    (refine takeH (i := 8) (v := ?_) (by decide +kernel) (by decide +kernel) (by kernel_rfl) (by rfl) (by exact fun _ _ _ h => h) (by rfl) ?_ (by assumption) ?_); rotate_left; (focus (intro w hSw; (try dsimp only at hSw); go_simp; (try with_reducible rfl); done)); (try simp only [Act.put, List.setIfInBounds_toArray, List.set_cons_zero, List.set_cons_succ])
    (refine takeH (i := 9) (v := ?_) (by decide +kernel) (by decide +kernel) (by kernel_rfl) (by rfl) (by exact fun _ _ _ h => h) (by rfl) ?_ (by assumption) ?_); rotate_left; (focus (intro w hSw; (try dsimp only at hSw); go_simp; (try with_reducible rfl); done)); (try simp only [Act.put, List.setIfInBounds_toArray, List.set_cons_zero, List.set_cons_succ])
    (refine takeH (i := 10) (v := ?_) (by decide +kernel) (by decide +kernel) (by kernel_rfl) (by rfl) (by exact fun _ _ _ h => h) (by rfl) ?_ (by assumption) ?_); rotate_left; (focus (intro w hSw; (try dsimp only at hSw); go_simp; (try with_reducible rfl); done)); (try simp only [Act.put, List.setIfInBounds_toArray, List.set_cons_zero, List.set_cons_succ])
    (refine takeH (i := 11) (v := ?_) (by decide +kernel) (by decide +kernel) (by kernel_rfl) (by rfl) (by exact fun _ _ _ h => h) (by rfl) ?_ (by assumption) ?_); rotate_left; (focus (intro w hSw; (try dsimp only at hSw); go_simp; (try with_reducible rfl); done)); (try simp only [Act.put, List.setIfInBounds_toArray, List.set_cons_zero, List.set_cons_succ])
    refine nextH (i := 12) (by decide +kernel) (by rfl) (by rfl) (fun K hK => ?_)
    go_simp
    (skip)
    refine hK.out _ _ ?_ (fun hHeld' => ?_)
    (focus ((try dsimp only); (first | done | ((first | exact ⟨q0, hcell⟩ | exact ⟨(cell_other hgo).trans q0, (cell_other hcb).trans hcell⟩); done))))
    clear hK K hHeld
    have hHeld := hHeld'
    clear hHeld'
    (try simp only [Act.put, List.setIfInBounds_toArray, List.set_cons_zero, List.set_cons_succ])
    refine wpAnyH_done (by decide +kernel) ?_ _
    clear hHeld hcv hfz q0 hcell
    go_wp2
    go_roundw
    case rel =>
      first
      | exact ⟨k + 1, cs.set mv v, by go_num, HN.out⟩
      | exact ⟨k + 1, cs.set mv v, by go_num, HN.out.next (Below.refl _ _).drew⟩
      | ((repeat apply Exists.intro); exact ⟨⟨k + 1, cs.set mv v, by go_num, HN.out⟩, rfl⟩)
    case measure => (simp [intOf]; omega)

end Go.Proofs.Ytolfanonjmfgcaa
