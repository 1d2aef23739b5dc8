/- Game2: games at their beginning: both sides. Each contract holds for every argument, under the premises that it states. -/
import Derived.Test.YteabheocbkcmnaaGame
import Derived.Test.YteabheocbkcmnaaOwn
import Derived.Test.YteabheocbkcmnaaStart
namespace Go.Proofs.Yteabheocbkcmnaa
set_option linter.unusedSimpArgs false
set_option linter.unusedVariables false
set_option linter.unnecessarySimpa false
open Go.RowKit Go.ChangeShapes Go.WideShapes Go.ChangeAt Go.Joins

/-- a game that begins with a position -/
def G.of (r : R) (p : P) : G := ⟨r, p, [], p, -1⟩
def gfP (r : R) (p : P) : G × Int := if p.ok r = true then (G.of r p, 0) else (G.zero, 1)
def ngP (r : R) : G × Int := if r.ok = true then (G.of r (startP r), 0) else (G.zero, 1)
theorem GP.of {lo m hi : Nat} {r : R} {p : P} {A B : A2} {w : World} (h1 : lo ≤ m) (h2 : m ≤ hi) (ha : PosP lo m p A.pa A.pc A.sa A.sc w) (hb : PosP m hi p B.pa B.pc B.sa B.sc w) : GP lo hi (G.of r p) ⟨A, none, 0, B⟩ w :=
  ⟨m, m, h1, Nat.le_refl _, h2, ha, RowP.nil _ _ _, hb⟩
theorem PosP.sets {lo hi nb : Nat} {p : P} {pa sa : Option Addr} {pc sc : Nat} {w : World} (h : PosP lo hi p pa pc sa sc w) (hn : nb < lo) (vs : List Value) (o : Nat) (hw : hi ≤ w.heap.size) : PosP lo hi p pa pc sa sc (w.setCells nb o vs) :=
  PosP.stab _ _ _ _ _ _ _ w _ h (fun k k1 k2 => (chg_sets nb vs o w).block k (by omega) (by omega))
theorem results_bx2 {P : Program} {fn : Func} {p u : Tmp} {ty : TypeId} {d : TypeDesc} {b : Nat} {cs : List Value} {v : Value} (h : fn.results = #[.cell p ty, .tmp u]) (tmps : Array Value) (hp : tmps.getD p undef = .pointer (some ⟨b, 0, none⟩)) (hu2 : tmps.getD u undef = v) (w : World) (hx : Bx b cs w)
    (hu : P.underlying ty = some d) (hd : d.isRow = true) (hi : (P.info? ty).map (·.size) = some cs.length) : (results fn tmps).run P w = .ok (.tuple #[.agg cs.toArray, v]) w := by
  have hl := run_loadVar_mid (P := P) w b 0 ty cs d (fun j v hv => by rw [Nat.zero_add]; exact hx.box j v hv) hu hd hi
  have hp' : tmps[p]?.getD undef = .pointer (some ⟨b, 0, none⟩) := by simpa using hp
  have hu' : tmps[u]?.getD undef = v := by simpa using hu2
  simp [results, h, hp', hu', asAddr, hl]

theorem Fr.storedE {w0 w : World} {ls : List Res} (h : Fr w0 w ls) {nb : Nat} {cs : List Value} (vs : List Value) (hb : BoxP nb cs w) (hl : vs.length = cs.length) (hw : w0.heap.size ≤ nb ∧ 0 < cs.length) (hd : ∀ r ∈ ls, r.hi ≤ nb ∨ nb + 1 ≤ r.lo) :
    Fr w0 (w.setCells nb 0 vs) (⟨nb, nb + 1, BoxP nb vs⟩ :: ls) := by
  have hlt : nb < w.heap.size := World.block_lt_of_cell? w _ (hb 0 (cs[0]'hw.2) (by simp [hw.2]))
  have h1 := h.chg0 (chg_sets nb vs 0 w) hw.1 hd
  exact h1.add nb (nb + 1) _ (BoxP.stab _ _) (boxP_sets_all hb hl) (by rw [size_sets]; omega)
theorem Fr.storedL {w0 w : World} {ls : List Res} (h : Fr w0 w ls) (Z : Array Value) (T : TypeId) (vs : List Value) (hl : vs.length = Z.toList.length) (hz : 0 < Z.toList.length) :
    Fr w0 ((w.alloc (.cells Z T)).setCells w.heap.size 0 vs) (⟨w.heap.size, w.heap.size + 1, BoxP w.heap.size vs⟩ :: ls) := by
  have h1 := h.step (below_alloc1 w (.cells Z T))
  have hb : BoxP w.heap.size Z.toList (w.alloc (.cells Z T)) := (Bx.alloc w Z T rfl).box
  exact h1.storedE vs hb hl ⟨h.below.size, hz⟩ (fun r hr => .inl (h.res r hr).1)
theorem there_bx {w : World} {nb n : Nat} {cs : List Value} (hb : BoxP nb cs w) (hf : ∀ o, w.frozen? ⟨nb, o, none⟩ = false) (hn : cs.length = n) : w.there nb 0 n := hn ▸ (Bx.mk hb hf).there
theorem there_alloc (w : World) (Z : Array Value) (T : TypeId) {n : Nat} (hn : Z.toList.length = n) : (w.alloc (.cells Z T)).there w.heap.size 0 n := hn ▸ (Bx.alloc w Z T rfl).there
theorem wpList_load_midG {P : Program} {ops : Array Oper} {rest : List Oper} {op : Oper} {a : Act} {w : World} {Q : Exit → Act → World → Prop} (hw : Region.wanted op (yielded ops a.tmps) = true) (ty : TypeId) (x : Operand) (ho : op.op = .load ty x)
    (b o : Nat) (hx : a.eval x = .pointer (some ⟨b, o, none⟩)) (cs : List Value) (d : TypeDesc) (hc : w.rangeAt b o cs)
    (hu : P.underlying ty = some d) (hd : d.isRow = true) (hi : (P.info? ty).map (·.size) = some cs.length)
    (h : wpList P ops Q rest (a.put op.dst (.agg cs.toArray)) w) : wpList P ops Q (op :: rest) a w :=
  wpList_step fun K hK => by rw [if_pos hw]; exact wp_load_mid ty x ho b o hx cs d hc hu hd hi (hK _ _ h)
theorem boxP_range {w : World} {b : Nat} {cs : List Value} (h : BoxP b cs w) : w.rangeAt b 0 cs := fun j v hv => by rw [Nat.zero_add]; exact h j v hv

set_option maxRecDepth 100000 in
set_option maxHeartbeats 8000000 in
theorem iGameFrom_c (r : R) (p : P) (pa sa : Option Addr) (pc sc : Nat) (w : World) (h : PRow w p pa sa) (m1 : p.pits.length ≤ 16777216) (m2 : p.stores.length ≤ 16777216) :
    Calls Try.prog 24 #[r.val, p.val pa pc sa sc] w (GRes w (gfP r p)) := by
  have F0 := (((Fr.start w).alloc r.cells 24).alloc (p.cells pa pc sa sc) 27).alloc #[.int .i64 0, .int .i64 0, .bool false, .bool false, .bool false, .bool false, .bool false, .int .i64 0, .int .i64 0, .slice none 0 0, .slice none 0 0, .int .i64 0, .slice none 0 0, .slice none 0 0, .slice none 0 0, .int .i64 0, .int .i64 0] 29
  have R0 : Bx w.heap.size r.cells.toList (((w.alloc (.cells r.cells 24)).alloc (.cells (p.cells pa pc sa sc) 27)).alloc (.cells #[.int .i64 0, .int .i64 0, .bool false, .bool false, .bool false, .bool false, .bool false, .int .i64 0, .int .i64 0, .slice none 0 0, .slice none 0 0, .int .i64 0, .slice none 0 0, .slice none 0 0, .slice none 0 0, .int .i64 0, .int .i64 0] 29)) := ((Bx.alloc w _ _ rfl).allocO (by simp) _ _).allocO (by simp; omega) _ _
  have P0 : Bx (w.heap.size + 1) (p.cells pa pc sa sc).toList (((w.alloc (.cells r.cells 24)).alloc (.cells (p.cells pa pc sa sc) 27)).alloc (.cells #[.int .i64 0, .int .i64 0, .bool false, .bool false, .bool false, .bool false, .bool false, .int .i64 0, .int .i64 0, .slice none 0 0, .slice none 0 0, .int .i64 0, .slice none 0 0, .slice none 0 0, .slice none 0 0, .int .i64 0, .int .i64 0] 29)) := (Bx.alloc _ _ _ (by simp)).allocO (by simp) _ _
  have Z0 : Bx (w.heap.size + 1 + 1) [.int .i64 0, .int .i64 0, .bool false, .bool false, .bool false, .bool false, .bool false, .int .i64 0, .int .i64 0, .slice none 0 0, .slice none 0 0, .int .i64 0, .slice none 0 0, .slice none 0 0, .slice none 0 0, .int .i64 0, .int .i64 0] (((w.alloc (.cells r.cells 24)).alloc (.cells (p.cells pa pc sa sc) 27)).alloc (.cells #[.int .i64 0, .int .i64 0, .bool false, .bool false, .bool false, .bool false, .bool false, .int .i64 0, .int .i64 0, .slice none 0 0, .slice none 0 0, .int .i64 0, .slice none 0 0, .slice none 0 0, .slice none 0 0, .int .i64 0, .int .i64 0] 29)) := Bx.alloc _ _ _ (by simp)
  have HP := Lib.hid (h.below F0.below (Nat.le_refl _))
  have HV := Lib.hid (ValidPosition_c r p pa sa pc sc _ HP.out m1 m2)
  have HPV0 : Hid (PRow w p pa sa) := h
  have HB0 := Lib.hid F0.below
  have H0 := Lib.hid (⟨R0, P0, Z0⟩ : _ ∧ _ ∧ _)
  clear F0 R0 P0 Z0
  unfold gfP
  cases hok : p.ok r
  all_goals (rw [hok] at HV; clear hok h)
  · rw [if_neg (by simp)]
    go_enter Try.func24, Try.ntmps24
    go_wp2_with fail
    refine HV.out.mono ?_
    rintro e wv ⟨rfl, hbv⟩
    have ZV := H0.out.2.2.below hbv (by simp)
    have BV := Lib.hid (below_next HB0.out hbv)
    have TH := Lib.hid (ZV.there)
    have ZF := Lib.hid (ZV.sets_all (vs := [.int .i64 0, .int .i64 0, .bool false, .bool false, .bool false, .bool false, .bool false, .int .i64 0, .int .i64 0, .slice none 0 0, .slice none 0 0, .int .i64 0, .slice none 0 0, .slice none 0 0, .slice none 0 0, .int .i64 0, .int .i64 0]) rfl)
    have zz := ZV.lt (by simp)
    clear hbv ZV
    go_upto_region 2 with fail
    go_wp2_with (refine wpList_store_mid rfl 29 _ _ rfl _ _ #[.int .i64 0, .int .i64 0, .bool false, .bool false, .bool false, .bool false, .bool false, .int .i64 0, .int .i64 0, .slice none 0 0, .slice none 0 0, .int .i64 0, .slice none 0 0, .slice none 0 0, .slice none 0 0, .int .i64 0, .int .i64 0] rfl rfl TH.out (by kernel_rfl) (by simp [Value.oneCell']) ?_)
    refine bodyPost_ret (v := .tuple #[G.zero.val GA.none, .int .i64 1]) (results_bx2 Try.results24 _ rfl rfl _ ZF.out Try.underlying29 rfl (by kernel_rfl)) rfl ⟨GA.none, rfl, GP.nil _ _ (by rw [size_sets]; omega) _, below_sets (by omega) _ _ BV.out⟩
  · rw [if_pos rfl]
    go_enter Try.func24, Try.ntmps24
    go_wp2_with fail
    refine HV.out.mono ?_
    rintro e wv ⟨rfl, hbv⟩
    have ZV := Lib.hid (H0.out.2.2.below hbv (by simp)).drew
    have RV := Lib.hid (H0.out.1.below hbv (by simp; omega)).drew
    have PV := Lib.hid (H0.out.2.1.below hbv (by simp)).drew
    have BV := Lib.hid (below_next HB0.out hbv).drew
    have HPR := Lib.hid (HPV0.out.below BV.out (Nat.le_refl _))
    have HSK : Hid (∀ W, Bx w.heap.size r.cells.toList W → Bx (w.heap.size + 1) (p.cells pa pc sa sc).toList W → (W.cell? ⟨w.heap.size, 0, none⟩ = some (.int .i64 r.pits) ∧ W.cell? ⟨w.heap.size, 1, none⟩ = some (.int .i64 r.seeds) ∧ W.cell? ⟨w.heap.size, 2, none⟩ = some (.bool r.stores) ∧ W.cell? ⟨w.heap.size, 3, none⟩ = some (.bool r.skip) ∧ W.cell? ⟨w.heap.size, 4, none⟩ = some (.bool r.relay) ∧ W.cell? ⟨w.heap.size, 5, none⟩ = some (.bool r.feed) ∧ W.cell? ⟨w.heap.size, 6, none⟩ = some (.bool r.again) ∧ W.cell? ⟨w.heap.size, 7, none⟩ = some (.int .i64 r.capture) ∧ W.cell? ⟨w.heap.size, 8, none⟩ = some (.int .i64 r.slam) ∧ W.cell? ⟨w.heap.size + 1, 0, none⟩ = some (.slice pa p.pits.length pc) ∧ W.cell? ⟨w.heap.size + 1, 1, none⟩ = some (.slice sa p.stores.length sc) ∧ W.cell? ⟨w.heap.size + 1, 2, none⟩ = some (.int .i64 p.player))) := fun W hW hV => ⟨hW.box 0 _ rfl, hW.box 1 _ rfl, hW.box 2 _ rfl, hW.box 3 _ rfl, hW.box 4 _ rfl, hW.box 5 _ rfl, hW.box 6 _ rfl, hW.box 7 _ rfl, hW.box 8 _ rfl, hV.box 0 _ rfl, hV.box 1 _ rfl, hV.box 2 _ rfl⟩
    have q0 := HSK.out _ RV.out PV.out
    have zz := ZV.out.lt (by simp)
    simp only [World.size_drew] at zz
    clear hbv H0 HP HV
    go_upto_region 3 with fail
    refine heldH (S := fun W => W.cell? ⟨w.heap.size, 0, none⟩ = some (.int .i64 r.pits) ∧ W.cell? ⟨w.heap.size, 1, none⟩ = some (.int .i64 r.seeds) ∧ W.cell? ⟨w.heap.size, 2, none⟩ = some (.bool r.stores) ∧ W.cell? ⟨w.heap.size, 3, none⟩ = some (.bool r.skip) ∧ W.cell? ⟨w.heap.size, 4, none⟩ = some (.bool r.relay) ∧ W.cell? ⟨w.heap.size, 5, none⟩ = some (.bool r.feed) ∧ W.cell? ⟨w.heap.size, 6, none⟩ = some (.bool r.again) ∧ W.cell? ⟨w.heap.size, 7, none⟩ = some (.int .i64 r.capture) ∧ W.cell? ⟨w.heap.size, 8, none⟩ = some (.int .i64 r.slam) ∧ W.cell? ⟨w.heap.size + 1, 0, none⟩ = some (.slice pa p.pits.length pc) ∧ W.cell? ⟨w.heap.size + 1, 1, none⟩ = some (.slice sa p.stores.length sc) ∧ W.cell? ⟨w.heap.size + 1, 2, none⟩ = some (.int .i64 p.player)) (n := 8) (listed := #[false, false, false, false, false, false, false, false]) (by kernel_rfl) (by rfl) (by rfl) ?_ (fun hHeld => ?_)
    (focus ((try dsimp only); (first | done | ((first | (with_reducible exact q0) | (with_reducible exact q3) | exact HSK.out _ (Bx.setsO (by omega) _ _ R2.out) (Bx.setsO (by omega) _ _ P2.out) | exact q2 | exact q1 | exact q0); done))))
    (refine takeH (i := 0) (v := ?_) (by decide +kernel) (by decide +kernel) (by kernel_rfl) (by rfl) (by exact fun _ _ _ h => h) (by rfl) ?_ (by assumption) ?_); rotate_left; (focus (intro w hSw; (try dsimp only at hSw); go_simp; (try with_reducible rfl); done)); (try simp only [Act.put, List.setIfInBounds_toArray, List.set_cons_zero, List.set_cons_succ])
    (refine takeH (i := 1) (v := ?_) (by decide +kernel) (by decide +kernel) (by kernel_rfl) (by rfl) (by exact fun _ _ _ h => h) (by rfl) ?_ (by assumption) ?_); rotate_left; (focus (intro w hSw; (try dsimp only at hSw); go_simp; (try with_reducible rfl); done)); (try simp only [Act.put, List.setIfInBounds_toArray, List.set_cons_zero, List.set_cons_succ])
    (refine takeH (i := 3) (v := ?_) (by decide +kernel) (by decide +kernel) (by kernel_rfl) (by rfl) (by exact fun _ _ _ h => h) (by rfl) ?_ (by assumption) ?_); rotate_left; (focus (intro w hSw; (try dsimp only at hSw); go_simp; (try with_reducible rfl); done)); (try simp only [Act.put, List.setIfInBounds_toArray, List.set_cons_zero, List.set_cons_succ])
    refine nextH (i := 2) (by decide +kernel) (by rfl) (by rfl) (fun K hK => ?_)
    (first | ((refine wp_store_mid 29 _ _ rfl (w.heap.size + 1 + 1) 0 #[.int .i64 r.pits, .int .i64 r.seeds, .bool r.stores, .bool r.skip, .bool r.relay, .bool r.feed, .bool r.again, .int .i64 r.capture, .int .i64 r.slam, .slice pa1 p.pits.length pc1, .slice sa1 p.stores.length sc1, .int .i64 p.player, .slice none 0 0, .slice pa2 p.pits.length pc2, .slice sa2 p.stores.length sc2, .int .i64 p.player, .int .i64 (-1)] rfl rfl TH2.out (by kernel_rfl) (by simp [Value.oneCell']) ?_)) | (go_simp; (first | (go_at_call 85; (refine (copied_c p pa sa pc sc _ (HPR.out.below B1.out (Nat.le_refl _)) m1 m2).mono ?_); (rintro e w2 ⟨pa2, pc2, sa2, sc2, rfl, ho2, hb2⟩); (have R2 := Lib.hid (R1.out.below hb2 (R1.out.lt (by simp [R.cells])))); (have P2 := Lib.hid (P1.out.below hb2 (P1.out.lt (by simp [P.cells])))); (have q2 := HSK.out _ R2.out P2.out); (have Z2 := Z1.out.below hb2 z1); (have TH2 := Lib.hid Z2.there); (have z2 := hb2.size); (have ZF := Lib.hid (Z2.sets_all (vs := [.int .i64 r.pits, .int .i64 r.seeds, .bool r.stores, .bool r.skip, .bool r.relay, .bool r.feed, .bool r.again, .int .i64 r.capture, .int .i64 r.slam, .slice pa1 p.pits.length pc1, .slice sa1 p.stores.length sc1, .int .i64 p.player, .slice none 0 0, .slice pa2 p.pits.length pc2, .slice sa2 p.stores.length sc2, .int .i64 p.player, .int .i64 (-1)]) rfl)); (have PA : Hid (PosP (wv.heap.size) w1.heap.size p pa1 pc1 sa1 sc1 w2) := PosP.stab _ _ _ _ _ _ _ w1 w2 HO1.out (fun k k1 k2 => hb2.block k k2)); (have PB : Hid (PosP w1.heap.size w2.heap.size p pa2 pc2 sa2 sc2 w2) := ⟨ho2, fun k hk => (ho2.pits.lt k hk).2, fun k hk => (ho2.stores.lt k hk).2⟩); (have B2 := Lib.hid (below_next (below_next BV.out B1.out) hb2)); clear ho2 hb2 Z2) | (go_at_call 85; (refine (copied_c p pa sa pc sc _ HPR.out m1 m2).mono ?_); (rintro e w1 ⟨pa1, pc1, sa1, sc1, rfl, ho1, hb1⟩); (have R1 := Lib.hid (RV.out.below hb1 (RV.out.lt (by simp [R.cells])))); (have P1 := Lib.hid (PV.out.below hb1 (PV.out.lt (by simp [P.cells])))); (have q1 := HSK.out _ R1.out P1.out); (have Z1 := Lib.hid (ZV.out.below hb1 (ZV.out.lt (by simp)))); (have z1 := Z1.out.lt (by simp)); (have B1 := Lib.hid hb1); (have z0 := hb1.size); (simp only [World.size_drew] at z0); (have HO1 : Hid (PosP wv.heap.size w1.heap.size p pa1 pc1 sa1 sc1 w1) := ⟨ho1, fun k hk => (ho1.pits.lt k hk).2, fun k hk => (ho1.stores.lt k hk).2⟩); clear ho1 hb1) | skip)))
    refine hK.out _ _ ?_ (fun hHeld' => ?_)
    (focus ((try dsimp only); (first | done | ((first | (with_reducible exact q0) | (with_reducible exact q3) | exact HSK.out _ (Bx.setsO (by omega) _ _ R2.out) (Bx.setsO (by omega) _ _ P2.out) | exact q2 | exact q1 | exact q0); done))))
    clear hK K hHeld
    have hHeld := hHeld'
    clear hHeld'
    (try simp only [Act.put, List.setIfInBounds_toArray, List.set_cons_zero, List.set_cons_succ])
    refine nextH (i := 4) (by decide +kernel) (by rfl) (by rfl) (fun K hK => ?_)
    (first | ((refine wp_store_mid 29 _ _ rfl (w.heap.size + 1 + 1) 0 #[.int .i64 r.pits, .int .i64 r.seeds, .bool r.stores, .bool r.skip, .bool r.relay, .bool r.feed, .bool r.again, .int .i64 r.capture, .int .i64 r.slam, .slice pa1 p.pits.length pc1, .slice sa1 p.stores.length sc1, .int .i64 p.player, .slice none 0 0, .slice pa2 p.pits.length pc2, .slice sa2 p.stores.length sc2, .int .i64 p.player, .int .i64 (-1)] rfl rfl TH2.out (by kernel_rfl) (by simp [Value.oneCell']) ?_)) | (go_simp; (first | (go_at_call 85; (refine (copied_c p pa sa pc sc _ (HPR.out.below B1.out (Nat.le_refl _)) m1 m2).mono ?_); (rintro e w2 ⟨pa2, pc2, sa2, sc2, rfl, ho2, hb2⟩); (have R2 := Lib.hid (R1.out.below hb2 (R1.out.lt (by simp [R.cells])))); (have P2 := Lib.hid (P1.out.below hb2 (P1.out.lt (by simp [P.cells])))); (have q2 := HSK.out _ R2.out P2.out); (have Z2 := Z1.out.below hb2 z1); (have TH2 := Lib.hid Z2.there); (have z2 := hb2.size); (have ZF := Lib.hid (Z2.sets_all (vs := [.int .i64 r.pits, .int .i64 r.seeds, .bool r.stores, .bool r.skip, .bool r.relay, .bool r.feed, .bool r.again, .int .i64 r.capture, .int .i64 r.slam, .slice pa1 p.pits.length pc1, .slice sa1 p.stores.length sc1, .int .i64 p.player, .slice none 0 0, .slice pa2 p.pits.length pc2, .slice sa2 p.stores.length sc2, .int .i64 p.player, .int .i64 (-1)]) rfl)); (have PA : Hid (PosP (wv.heap.size) w1.heap.size p pa1 pc1 sa1 sc1 w2) := PosP.stab _ _ _ _ _ _ _ w1 w2 HO1.out (fun k k1 k2 => hb2.block k k2)); (have PB : Hid (PosP w1.heap.size w2.heap.size p pa2 pc2 sa2 sc2 w2) := ⟨ho2, fun k hk => (ho2.pits.lt k hk).2, fun k hk => (ho2.stores.lt k hk).2⟩); (have B2 := Lib.hid (below_next (below_next BV.out B1.out) hb2)); clear ho2 hb2 Z2) | (go_at_call 85; (refine (copied_c p pa sa pc sc _ HPR.out m1 m2).mono ?_); (rintro e w1 ⟨pa1, pc1, sa1, sc1, rfl, ho1, hb1⟩); (have R1 := Lib.hid (RV.out.below hb1 (RV.out.lt (by simp [R.cells])))); (have P1 := Lib.hid (PV.out.below hb1 (PV.out.lt (by simp [P.cells])))); (have q1 := HSK.out _ R1.out P1.out); (have Z1 := Lib.hid (ZV.out.below hb1 (ZV.out.lt (by simp)))); (have z1 := Z1.out.lt (by simp)); (have B1 := Lib.hid hb1); (have z0 := hb1.size); (simp only [World.size_drew] at z0); (have HO1 : Hid (PosP wv.heap.size w1.heap.size p pa1 pc1 sa1 sc1 w1) := ⟨ho1, fun k hk => (ho1.pits.lt k hk).2, fun k hk => (ho1.stores.lt k hk).2⟩); clear ho1 hb1) | skip)))
    refine hK.out _ _ ?_ (fun hHeld' => ?_)
    (focus ((try dsimp only); (first | done | ((first | (with_reducible exact q0) | (with_reducible exact q3) | exact HSK.out _ (Bx.setsO (by omega) _ _ R2.out) (Bx.setsO (by omega) _ _ P2.out) | exact q2 | exact q1 | exact q0); done))))
    clear hK K hHeld
    have hHeld := hHeld'
    clear hHeld'
    (try simp only [Act.put, List.setIfInBounds_toArray, List.set_cons_zero, List.set_cons_succ])
    (refine takeH (i := 5) (v := ?_) (by decide +kernel) (by decide +kernel) (by kernel_rfl) (by rfl) (by exact fun _ _ _ h => h) (by rfl) ?_ (by assumption) ?_); rotate_left; (focus (intro w hSw; (try dsimp only at hSw); go_simp; (try with_reducible rfl); done)); (try simp only [Act.put, List.setIfInBounds_toArray, List.set_cons_zero, List.set_cons_succ])
    refine nextH (i := 6) (by decide +kernel) (by rfl) (by rfl) (fun K hK => ?_)
    (first | ((refine wp_store_mid 29 _ _ rfl (w.heap.size + 1 + 1) 0 #[.int .i64 r.pits, .int .i64 r.seeds, .bool r.stores, .bool r.skip, .bool r.relay, .bool r.feed, .bool r.again, .int .i64 r.capture, .int .i64 r.slam, .slice pa1 p.pits.length pc1, .slice sa1 p.stores.length sc1, .int .i64 p.player, .slice none 0 0, .slice pa2 p.pits.length pc2, .slice sa2 p.stores.length sc2, .int .i64 p.player, .int .i64 (-1)] rfl rfl TH2.out (by kernel_rfl) (by simp [Value.oneCell']) ?_)) | (go_simp; (first | (go_at_call 85; (refine (copied_c p pa sa pc sc _ (HPR.out.below B1.out (Nat.le_refl _)) m1 m2).mono ?_); (rintro e w2 ⟨pa2, pc2, sa2, sc2, rfl, ho2, hb2⟩); (have R2 := Lib.hid (R1.out.below hb2 (R1.out.lt (by simp [R.cells])))); (have P2 := Lib.hid (P1.out.below hb2 (P1.out.lt (by simp [P.cells])))); (have q2 := HSK.out _ R2.out P2.out); (have Z2 := Z1.out.below hb2 z1); (have TH2 := Lib.hid Z2.there); (have z2 := hb2.size); (have ZF := Lib.hid (Z2.sets_all (vs := [.int .i64 r.pits, .int .i64 r.seeds, .bool r.stores, .bool r.skip, .bool r.relay, .bool r.feed, .bool r.again, .int .i64 r.capture, .int .i64 r.slam, .slice pa1 p.pits.length pc1, .slice sa1 p.stores.length sc1, .int .i64 p.player, .slice none 0 0, .slice pa2 p.pits.length pc2, .slice sa2 p.stores.length sc2, .int .i64 p.player, .int .i64 (-1)]) rfl)); (have PA : Hid (PosP (wv.heap.size) w1.heap.size p pa1 pc1 sa1 sc1 w2) := PosP.stab _ _ _ _ _ _ _ w1 w2 HO1.out (fun k k1 k2 => hb2.block k k2)); (have PB : Hid (PosP w1.heap.size w2.heap.size p pa2 pc2 sa2 sc2 w2) := ⟨ho2, fun k hk => (ho2.pits.lt k hk).2, fun k hk => (ho2.stores.lt k hk).2⟩); (have B2 := Lib.hid (below_next (below_next BV.out B1.out) hb2)); clear ho2 hb2 Z2) | (go_at_call 85; (refine (copied_c p pa sa pc sc _ HPR.out m1 m2).mono ?_); (rintro e w1 ⟨pa1, pc1, sa1, sc1, rfl, ho1, hb1⟩); (have R1 := Lib.hid (RV.out.below hb1 (RV.out.lt (by simp [R.cells])))); (have P1 := Lib.hid (PV.out.below hb1 (PV.out.lt (by simp [P.cells])))); (have q1 := HSK.out _ R1.out P1.out); (have Z1 := Lib.hid (ZV.out.below hb1 (ZV.out.lt (by simp)))); (have z1 := Z1.out.lt (by simp)); (have B1 := Lib.hid hb1); (have z0 := hb1.size); (simp only [World.size_drew] at z0); (have HO1 : Hid (PosP wv.heap.size w1.heap.size p pa1 pc1 sa1 sc1 w1) := ⟨ho1, fun k hk => (ho1.pits.lt k hk).2, fun k hk => (ho1.stores.lt k hk).2⟩); clear ho1 hb1) | skip)))
    refine hK.out _ _ ?_ (fun hHeld' => ?_)
    (focus ((try dsimp only); (first | done | ((first | (with_reducible exact q0) | (with_reducible exact q3) | exact HSK.out _ (Bx.setsO (by omega) _ _ R2.out) (Bx.setsO (by omega) _ _ P2.out) | exact q2 | exact q1 | exact q0); done))))
    clear hK K hHeld
    have hHeld := hHeld'
    clear hHeld'
    (try simp only [Act.put, List.setIfInBounds_toArray, List.set_cons_zero, List.set_cons_succ])
    (refine takeH (i := 7) (v := ?_) (by decide +kernel) (by decide +kernel) (by kernel_rfl) (by rfl) (by exact fun _ _ _ h => h) (by rfl) ?_ (by assumption) ?_); rotate_left; (focus (intro w hSw; (try dsimp only at hSw); go_simp; (try with_reducible rfl); done)); (try simp only [Act.put, List.setIfInBounds_toArray, List.set_cons_zero, List.set_cons_succ])
    refine wpAnyH_done (by decide +kernel) ?_ _
    clear hHeld q0 q1 q2
    go_wp2_with fail
    refine bodyPost_ret (v := .tuple #[(G.of r p).val ⟨⟨pa1, pc1, sa1, sc1⟩, none, 0, ⟨pa2, pc2, sa2, sc2⟩⟩, .int .i64 0]) (results_bx2 Try.results24 _ rfl rfl _ ZF.out Try.underlying29 rfl (by kernel_rfl)) rfl ⟨⟨⟨pa1, pc1, sa1, sc1⟩, none, 0, ⟨pa2, pc2, sa2, sc2⟩⟩, rfl, ?_, below_sets (by omega) _ _ B2.out⟩
    rw [size_sets]
    refine GP.of (A := ⟨pa1, pc1, sa1, sc1⟩) (B := ⟨pa2, pc2, sa2, sc2⟩) (m := w1.heap.size) (by omega) z2 ?_ ?_
    · have k9 := PA.out.sets (nb := w.heap.size + 1 + 1) zz [.int .i64 r.pits, .int .i64 r.seeds, .bool r.stores, .bool r.skip, .bool r.relay, .bool r.feed, .bool r.again, .int .i64 r.capture, .int .i64 r.slam, .slice pa1 p.pits.length pc1, .slice sa1 p.stores.length sc1, .int .i64 p.player, .slice none 0 0, .slice pa2 p.pits.length pc2, .slice sa2 p.stores.length sc2, .int .i64 p.player, .int .i64 (-1)] 0 z2
      exact ⟨k9.1.le' (by omega), k9.2⟩
    · exact PB.out.sets (by omega) _ _ (Nat.le_refl _)

theorem P.At.below' {w w' : World} {B b o : Nat} {p : P} {pa sa : Option Addr} {pc sc : Nat} (h : P.At w b o p pa pc sa sc) (hb : Below B w w') (hB : b < B) : P.At w' b o p pa pc sa sc :=
  ⟨(hb.cell (p := ⟨b, o, none⟩) hB).trans h.c0, (hb.cell (p := ⟨b, o + 1, none⟩) hB).trans h.c1, (hb.cell (p := ⟨b, o + 2, none⟩) hB).trans h.c2⟩
theorem R.At.sets {w : World} {rb ro nb : Nat} {r : R} (h : R.At w rb ro r) (hn : rb ≠ nb) (vs : List Value) (o : Nat) : R.At (w.setCells nb o vs) rb ro r := by
  have K : ∀ q, (w.setCells nb o vs).cell? ⟨rb, q, none⟩ = w.cell? ⟨rb, q, none⟩ := fun q => World.cell?_setCells_out nb vs o w ⟨rb, q, none⟩ (fun e _ => absurd e hn)
  obtain ⟨c0, c1, c2, c3, c4, c5, c6, c7, c8⟩ := h
  exact ⟨(K _).trans c0, (K _).trans c1, (K _).trans c2, (K _).trans c3, (K _).trans c4, (K _).trans c5, (K _).trans c6, (K _).trans c7, (K _).trans c8⟩
set_option maxRecDepth 100000 in
set_option maxHeartbeats 8000000 in
theorem l08New_c (rb ro pb po : Nat) (r : R) (p : P) (pa sa : Option Addr) (pc sc : Nat) (w : World) (hat : R.At w rb ro r) (pat : P.At w pb po p pa pc sa sc) (h : PRow w p pa sa) (m1 : p.pits.length ≤ 16777216) (m2 : p.stores.length ≤ 16777216) :
    Calls Try.prog 74 #[.pointer (some ⟨rb, ro, none⟩), .pointer (some ⟨pb, po, none⟩)] w fun e w' => ∃ A : GA, e = .returned ((G.of r p).val A) ∧ GP w.heap.size w'.heap.size (G.of r p) A w' ∧ Below w.heap.size w w' := by
  have hrb : rb < w.heap.size := World.block_lt_of_cell? w _ hat.c0
  have hpb : pb < w.heap.size := World.block_lt_of_cell? w _ pat.c0
  have B0 := (below_alloc1 w (.cells #[.int .i64 0, .int .i64 0, .bool false, .bool false, .bool false, .bool false, .bool false, .int .i64 0, .int .i64 0, .slice none 0 0, .slice none 0 0, .int .i64 0, .slice none 0 0, .slice none 0 0, .slice none 0 0, .int .i64 0, .int .i64 0] 29)).drew
  have ZV := Lib.hid (Bx.alloc w #[.int .i64 0, .int .i64 0, .bool false, .bool false, .bool false, .bool false, .bool false, .int .i64 0, .int .i64 0, .slice none 0 0, .slice none 0 0, .int .i64 0, .slice none 0 0, .slice none 0 0, .slice none 0 0, .int .i64 0, .int .i64 0] 29 rfl).drew
  have HR := Lib.hid (hat.below B0 hrb)
  have HPA := Lib.hid (pat.below' B0 hpb)
  have HPR := Lib.hid (h.below B0 (Nat.le_refl _))
  have BV := Lib.hid B0
  have HSK : Hid (∀ W, R.At W rb ro r → (W.cell? ⟨rb, ro, none⟩ = some (.int .i64 r.pits) ∧ W.cell? ⟨rb, ro + 1, none⟩ = some (.int .i64 r.seeds) ∧ W.cell? ⟨rb, ro + 2, none⟩ = some (.bool r.stores) ∧ W.cell? ⟨rb, ro + 3, none⟩ = some (.bool r.skip) ∧ W.cell? ⟨rb, ro + 4, none⟩ = some (.bool r.relay) ∧ W.cell? ⟨rb, ro + 5, none⟩ = some (.bool r.feed) ∧ W.cell? ⟨rb, ro + 6, none⟩ = some (.bool r.again) ∧ W.cell? ⟨rb, ro + 7, none⟩ = some (.int .i64 r.capture) ∧ W.cell? ⟨rb, ro + 8, none⟩ = some (.int .i64 r.slam))) := fun W hW => ⟨hW.c0, hW.c1, hW.c2, hW.c3, hW.c4, hW.c5, hW.c6, hW.c7, hW.c8⟩
  have q0 := HSK.out _ HR.out
  have zz := ZV.out.lt (by simp)
  simp only [World.size_alloc, World.size_drew] at zz
  have hrn : rb ≠ w.heap.size := by omega
  clear hat pat h B0
  go_enter Try.func74, Try.ntmps74
  go_upto_region 1 with fail
  refine heldH (S := fun W => W.cell? ⟨rb, ro, none⟩ = some (.int .i64 r.pits) ∧ W.cell? ⟨rb, ro + 1, none⟩ = some (.int .i64 r.seeds) ∧ W.cell? ⟨rb, ro + 2, none⟩ = some (.bool r.stores) ∧ W.cell? ⟨rb, ro + 3, none⟩ = some (.bool r.skip) ∧ W.cell? ⟨rb, ro + 4, none⟩ = some (.bool r.relay) ∧ W.cell? ⟨rb, ro + 5, none⟩ = some (.bool r.feed) ∧ W.cell? ⟨rb, ro + 6, none⟩ = some (.bool r.again) ∧ W.cell? ⟨rb, ro + 7, none⟩ = some (.int .i64 r.capture) ∧ W.cell? ⟨rb, ro + 8, none⟩ = some (.int .i64 r.slam)) (n := 9) (listed := #[false, false, false, false, false, false, false, false, false]) (by kernel_rfl) (by rfl) (by rfl) ?_ (fun hHeld => ?_)
  (focus ((try dsimp only); (first | done | ((first | (with_reducible exact q0) | exact HSK.out _ (R2.out.sets hrn _ _) | exact q2 | exact q1 | exact q0); done))))
  (refine takeH (i := 0) (v := ?_) (by decide +kernel) (by decide +kernel) (by kernel_rfl) (by rfl) (by exact fun _ _ _ h => h) (by rfl) ?_ (by assumption) ?_); rotate_left; (focus (intro w hSw; (try dsimp only at hSw); go_simp; (try with_reducible rfl); done)); (try simp only [Act.put, List.setIfInBounds_toArray, List.set_cons_zero, List.set_cons_succ])
  (refine takeH (i := 1) (v := ?_) (by decide +kernel) (by decide +kernel) (by kernel_rfl) (by rfl) (by exact fun _ _ _ h => h) (by rfl) ?_ (by assumption) ?_); rotate_left; (focus (intro w hSw; (try dsimp only at hSw); go_simp; (try with_reducible rfl); done)); (try simp only [Act.put, List.setIfInBounds_toArray, List.set_cons_zero, List.set_cons_succ])
  (refine takeH (i := 2) (v := ?_) (by decide +kernel) (by decide +kernel) (by kernel_rfl) (by rfl) (by exact fun _ _ _ h => h) (by rfl) ?_ (by assumption) ?_); rotate_left; (focus (intro w hSw; (try dsimp only at hSw); go_simp; (try with_reducible rfl); done)); (try simp only [Act.put, List.setIfInBounds_toArray, List.set_cons_zero, List.set_cons_succ])
  (refine takeH (i := 3) (v := ?_) (by decide +kernel) (by decide +kernel) (by kernel_rfl) (by rfl) (by exact fun _ _ _ h => h) (by rfl) ?_ (by assumption) ?_); rotate_left; (focus (intro w hSw; (try dsimp only at hSw); go_simp; (try with_reducible rfl); done)); (try simp only [Act.put, List.setIfInBounds_toArray, List.set_cons_zero, List.set_cons_succ])
  (refine takeH (i := 5) (v := ?_) (by decide +kernel) (by decide +kernel) (by kernel_rfl) (by rfl) (by exact fun _ _ _ h => h) (by rfl) ?_ (by assumption) ?_); rotate_left; (focus (intro w hSw; (try dsimp only at hSw); go_simp; (try with_reducible rfl); done)); (try simp only [Act.put, List.setIfInBounds_toArray, List.set_cons_zero, List.set_cons_succ])
  refine nextH (i := 4) (by decide +kernel) (by rfl) (by rfl) (fun K hK => ?_)
  (first | ((refine wp_store_mid 29 _ _ rfl w.heap.size 0 #[.int .i64 r.pits, .int .i64 r.seeds, .bool r.stores, .bool r.skip, .bool r.relay, .bool r.feed, .bool r.again, .int .i64 r.capture, .int .i64 r.slam, .slice pa1 p.pits.length pc1, .slice sa1 p.stores.length sc1, .int .i64 p.player, .slice none 0 0, .slice pa2 p.pits.length pc2, .slice sa2 p.stores.length sc2, .int .i64 p.player, .int .i64 (-1)] rfl rfl TH2.out (by kernel_rfl) (by simp [Value.oneCell']) ?_)) | (go_simp; (first | (go_at_call 133; (refine (l04Own_c pb po p pa sa pc sc _ (PA1.out) (HPR.out.below B1.out (Nat.le_refl _)) m1 m2).mono ?_); (rintro e w2 ⟨pa2, pc2, sa2, sc2, rfl, ho2, hb2⟩); (have R2 := Lib.hid (R1.out.below hb2 (by omega))); (have q2 := HSK.out _ R2.out); (have Z2 := Z1.out.below hb2 z1); (have TH2 := Lib.hid Z2.there); (have z2 := hb2.size); (have ZF := Lib.hid (Z2.sets_all (vs := [.int .i64 r.pits, .int .i64 r.seeds, .bool r.stores, .bool r.skip, .bool r.relay, .bool r.feed, .bool r.again, .int .i64 r.capture, .int .i64 r.slam, .slice pa1 p.pits.length pc1, .slice sa1 p.stores.length sc1, .int .i64 p.player, .slice none 0 0, .slice pa2 p.pits.length pc2, .slice sa2 p.stores.length sc2, .int .i64 p.player, .int .i64 (-1)]) rfl)); (have PA : Hid (PosP (w.heap.size + 1) w1.heap.size p pa1 pc1 sa1 sc1 w2) := PosP.stab _ _ _ _ _ _ _ w1 w2 HO1.out (fun k k1 k2 => hb2.block k k2)); (have PB : Hid (PosP w1.heap.size w2.heap.size p pa2 pc2 sa2 sc2 w2) := ⟨ho2, fun k hk => (ho2.pits.lt k hk).2, fun k hk => (ho2.stores.lt k hk).2⟩); (have B2 := Lib.hid (below_next (below_next BV.out B1.out) hb2)); clear ho2 hb2 Z2) | (go_at_call 133; (refine (l04Own_c pb po p pa sa pc sc _ HPA.out HPR.out m1 m2).mono ?_); (rintro e w1 ⟨pa1, pc1, sa1, sc1, rfl, ho1, hb1⟩); (have z0 := hb1.size); (simp only [World.size_drew, World.size_alloc] at z0 ho1); (have R1 := Lib.hid (HR.out.below hb1 (by simp; omega))); (have PA1 := Lib.hid (HPA.out.below' hb1 (by simp; omega))); (have q1 := HSK.out _ R1.out); (have Z1 := Lib.hid (ZV.out.below hb1 (by simp))); (have z1 := Z1.out.lt (by simp)); (have B1 := Lib.hid hb1); (have HO1 : Hid (PosP (w.heap.size + 1) w1.heap.size p pa1 pc1 sa1 sc1 w1) := ⟨ho1, fun k hk => (ho1.pits.lt k hk).2, fun k hk => (ho1.stores.lt k hk).2⟩); clear ho1 hb1) | skip)))
  refine hK.out _ _ ?_ (fun hHeld' => ?_)
  (focus ((try dsimp only); (first | done | ((first | (with_reducible exact q0) | exact HSK.out _ (R2.out.sets hrn _ _) | exact q2 | exact q1 | exact q0); done))))
  clear hK K hHeld
  have hHeld := hHeld'
  clear hHeld'
  (try simp only [Act.put, List.setIfInBounds_toArray, List.set_cons_zero, List.set_cons_succ])
  refine nextH (i := 6) (by decide +kernel) (by rfl) (by rfl) (fun K hK => ?_)
  (first | ((refine wp_store_mid 29 _ _ rfl w.heap.size 0 #[.int .i64 r.pits, .int .i64 r.seeds, .bool r.stores, .bool r.skip, .bool r.relay, .bool r.feed, .bool r.again, .int .i64 r.capture, .int .i64 r.slam, .slice pa1 p.pits.length pc1, .slice sa1 p.stores.length sc1, .int .i64 p.player, .slice none 0 0, .slice pa2 p.pits.length pc2, .slice sa2 p.stores.length sc2, .int .i64 p.player, .int .i64 (-1)] rfl rfl TH2.out (by kernel_rfl) (by simp [Value.oneCell']) ?_)) | (go_simp; (first | (go_at_call 133; (refine (l04Own_c pb po p pa sa pc sc _ (PA1.out) (HPR.out.below B1.out (Nat.le_refl _)) m1 m2).mono ?_); (rintro e w2 ⟨pa2, pc2, sa2, sc2, rfl, ho2, hb2⟩); (have R2 := Lib.hid (R1.out.below hb2 (by omega))); (have q2 := HSK.out _ R2.out); (have Z2 := Z1.out.below hb2 z1); (have TH2 := Lib.hid Z2.there); (have z2 := hb2.size); (have ZF := Lib.hid (Z2.sets_all (vs := [.int .i64 r.pits, .int .i64 r.seeds, .bool r.stores, .bool r.skip, .bool r.relay, .bool r.feed, .bool r.again, .int .i64 r.capture, .int .i64 r.slam, .slice pa1 p.pits.length pc1, .slice sa1 p.stores.length sc1, .int .i64 p.player, .slice none 0 0, .slice pa2 p.pits.length pc2, .slice sa2 p.stores.length sc2, .int .i64 p.player, .int .i64 (-1)]) rfl)); (have PA : Hid (PosP (w.heap.size + 1) w1.heap.size p pa1 pc1 sa1 sc1 w2) := PosP.stab _ _ _ _ _ _ _ w1 w2 HO1.out (fun k k1 k2 => hb2.block k k2)); (have PB : Hid (PosP w1.heap.size w2.heap.size p pa2 pc2 sa2 sc2 w2) := ⟨ho2, fun k hk => (ho2.pits.lt k hk).2, fun k hk => (ho2.stores.lt k hk).2⟩); (have B2 := Lib.hid (below_next (below_next BV.out B1.out) hb2)); clear ho2 hb2 Z2) | (go_at_call 133; (refine (l04Own_c pb po p pa sa pc sc _ HPA.out HPR.out m1 m2).mono ?_); (rintro e w1 ⟨pa1, pc1, sa1, sc1, rfl, ho1, hb1⟩); (have z0 := hb1.size); (simp only [World.size_drew, World.size_alloc] at z0 ho1); (have R1 := Lib.hid (HR.out.below hb1 (by simp; omega))); (have PA1 := Lib.hid (HPA.out.below' hb1 (by simp; omega))); (have q1 := HSK.out _ R1.out); (have Z1 := Lib.hid (ZV.out.below hb1 (by simp))); (have z1 := Z1.out.lt (by simp)); (have B1 := Lib.hid hb1); (have HO1 : Hid (PosP (w.heap.size + 1) w1.heap.size p pa1 pc1 sa1 sc1 w1) := ⟨ho1, fun k hk => (ho1.pits.lt k hk).2, fun k hk => (ho1.stores.lt k hk).2⟩); clear ho1 hb1) | skip)))
  refine hK.out _ _ ?_ (fun hHeld' => ?_)
  (focus ((try dsimp only); (first | done | ((first | (with_reducible exact q0) | exact HSK.out _ (R2.out.sets hrn _ _) | exact q2 | exact q1 | exact q0); done))))
  clear hK K hHeld
  have hHeld := hHeld'
  clear hHeld'
  (try simp only [Act.put, List.setIfInBounds_toArray, List.set_cons_zero, List.set_cons_succ])
  (refine takeH (i := 7) (v := ?_) (by decide +kernel) (by decide +kernel) (by kernel_rfl) (by rfl) (by exact fun _ _ _ h => h) (by rfl) ?_ (by assumption) ?_); rotate_left; (focus (intro w hSw; (try dsimp only at hSw); go_simp; (try with_reducible rfl); done)); (try simp only [Act.put, List.setIfInBounds_toArray, List.set_cons_zero, List.set_cons_succ])
  refine nextH (i := 8) (by decide +kernel) (by rfl) (by rfl) (fun K hK => ?_)
  (first | ((refine wp_store_mid 29 _ _ rfl w.heap.size 0 #[.int .i64 r.pits, .int .i64 r.seeds, .bool r.stores, .bool r.skip, .bool r.relay, .bool r.feed, .bool r.again, .int .i64 r.capture, .int .i64 r.slam, .slice pa1 p.pits.length pc1, .slice sa1 p.stores.length sc1, .int .i64 p.player, .slice none 0 0, .slice pa2 p.pits.length pc2, .slice sa2 p.stores.length sc2, .int .i64 p.player, .int .i64 (-1)] rfl rfl TH2.out (by kernel_rfl) (by simp [Value.oneCell']) ?_)) | (go_simp; (first | (go_at_call 133; (refine (l04Own_c pb po p pa sa pc sc _ (PA1.out) (HPR.out.below B1.out (Nat.le_refl _)) m1 m2).mono ?_); (rintro e w2 ⟨pa2, pc2, sa2, sc2, rfl, ho2, hb2⟩); (have R2 := Lib.hid (R1.out.below hb2 (by omega))); (have q2 := HSK.out _ R2.out); (have Z2 := Z1.out.below hb2 z1); (have TH2 := Lib.hid Z2.there); (have z2 := hb2.size); (have ZF := Lib.hid (Z2.sets_all (vs := [.int .i64 r.pits, .int .i64 r.seeds, .bool r.stores, .bool r.skip, .bool r.relay, .bool r.feed, .bool r.again, .int .i64 r.capture, .int .i64 r.slam, .slice pa1 p.pits.length pc1, .slice sa1 p.stores.length sc1, .int .i64 p.player, .slice none 0 0, .slice pa2 p.pits.length pc2, .slice sa2 p.stores.length sc2, .int .i64 p.player, .int .i64 (-1)]) rfl)); (have PA : Hid (PosP (w.heap.size + 1) w1.heap.size p pa1 pc1 sa1 sc1 w2) := PosP.stab _ _ _ _ _ _ _ w1 w2 HO1.out (fun k k1 k2 => hb2.block k k2)); (have PB : Hid (PosP w1.heap.size w2.heap.size p pa2 pc2 sa2 sc2 w2) := ⟨ho2, fun k hk => (ho2.pits.lt k hk).2, fun k hk => (ho2.stores.lt k hk).2⟩); (have B2 := Lib.hid (below_next (below_next BV.out B1.out) hb2)); clear ho2 hb2 Z2) | (go_at_call 133; (refine (l04Own_c pb po p pa sa pc sc _ HPA.out HPR.out m1 m2).mono ?_); (rintro e w1 ⟨pa1, pc1, sa1, sc1, rfl, ho1, hb1⟩); (have z0 := hb1.size); (simp only [World.size_drew, World.size_alloc] at z0 ho1); (have R1 := Lib.hid (HR.out.below hb1 (by simp; omega))); (have PA1 := Lib.hid (HPA.out.below' hb1 (by simp; omega))); (have q1 := HSK.out _ R1.out); (have Z1 := Lib.hid (ZV.out.below hb1 (by simp))); (have z1 := Z1.out.lt (by simp)); (have B1 := Lib.hid hb1); (have HO1 : Hid (PosP (w.heap.size + 1) w1.heap.size p pa1 pc1 sa1 sc1 w1) := ⟨ho1, fun k hk => (ho1.pits.lt k hk).2, fun k hk => (ho1.stores.lt k hk).2⟩); clear ho1 hb1) | skip)))
  refine hK.out _ _ ?_ (fun hHeld' => ?_)
  (focus ((try dsimp only); (first | done | ((first | (with_reducible exact q0) | exact HSK.out _ (R2.out.sets hrn _ _) | exact q2 | exact q1 | exact q0); done))))
  clear hK K hHeld
  have hHeld := hHeld'
  clear hHeld'
  (try simp only [Act.put, List.setIfInBounds_toArray, List.set_cons_zero, List.set_cons_succ])
  refine wpAnyH_done (by decide +kernel) ?_ _
  clear hHeld q0 q1 q2
  go_wp2_with fail
  refine bodyPost_ret (v := (G.of r p).val ⟨⟨pa1, pc1, sa1, sc1⟩, none, 0, ⟨pa2, pc2, sa2, sc2⟩⟩) (results_bx Try.results74 _ rfl _ ZF.out Try.underlying29 rfl (by kernel_rfl)) rfl ⟨⟨⟨pa1, pc1, sa1, sc1⟩, none, 0, ⟨pa2, pc2, sa2, sc2⟩⟩, rfl, ?_, below_sets (by omega) _ _ B2.out⟩
  rw [size_sets]
  refine GP.of (A := ⟨pa1, pc1, sa1, sc1⟩) (B := ⟨pa2, pc2, sa2, sc2⟩) (m := w1.heap.size) (by omega) z2 ?_ ?_
  · have k9 := PA.out.sets (nb := w.heap.size) (by omega) [.int .i64 r.pits, .int .i64 r.seeds, .bool r.stores, .bool r.skip, .bool r.relay, .bool r.feed, .bool r.again, .int .i64 r.capture, .int .i64 r.slam, .slice pa1 p.pits.length pc1, .slice sa1 p.stores.length sc1, .int .i64 p.player, .slice none 0 0, .slice pa2 p.pits.length pc2, .slice sa2 p.stores.length sc2, .int .i64 p.player, .int .i64 (-1)] 0 z2
    exact ⟨k9.1.le' (by omega), k9.2⟩
  · exact PB.out.sets (by omega) _ _ (Nat.le_refl _)

set_option maxRecDepth 100000 in
set_option maxHeartbeats 8000000 in
theorem sGameFrom_c (r : R) (p : P) (pa sa : Option Addr) (pc sc : Nat) (w : World) (h : PRow w p pa sa) (m1 : p.pits.length ≤ 16777216) (m2 : p.stores.length ≤ 16777216) :
    Calls Try.prog 22 #[r.val, p.val pa pc sa sc] w (GRes w (gfP r p)) := by
  have F0 := (((Fr.start w).alloc r.cells 24).alloc (p.cells pa pc sa sc) 27).alloc #[.int .i64 0, .int .i64 0, .bool false, .bool false, .bool false, .bool false, .bool false, .int .i64 0, .int .i64 0, .slice none 0 0, .slice none 0 0, .int .i64 0, .slice none 0 0, .slice none 0 0, .slice none 0 0, .int .i64 0, .int .i64 0] 29
  have Z0 : Bx (w.heap.size + 1 + 1) [.int .i64 0, .int .i64 0, .bool false, .bool false, .bool false, .bool false, .bool false, .int .i64 0, .int .i64 0, .slice none 0 0, .slice none 0 0, .int .i64 0, .slice none 0 0, .slice none 0 0, .slice none 0 0, .int .i64 0, .int .i64 0] (((w.alloc (.cells r.cells 24)).alloc (.cells (p.cells pa pc sa sc) 27)).alloc (.cells #[.int .i64 0, .int .i64 0, .bool false, .bool false, .bool false, .bool false, .bool false, .int .i64 0, .int .i64 0, .slice none 0 0, .slice none 0 0, .int .i64 0, .slice none 0 0, .slice none 0 0, .slice none 0 0, .int .i64 0, .int .i64 0] 29)) := Bx.alloc _ _ _ (by simp)
  have HAT := Lib.hid (R.boxc (F0.at 2 rfl))
  have HPT : Hid (P.At (((w.alloc (.cells r.cells 24)).alloc (.cells (p.cells pa pc sa sc) 27)).alloc (.cells #[.int .i64 0, .int .i64 0, .bool false, .bool false, .bool false, .bool false, .bool false, .int .i64 0, .int .i64 0, .slice none 0 0, .slice none 0 0, .int .i64 0, .slice none 0 0, .slice none 0 0, .slice none 0 0, .int .i64 0, .int .i64 0] 29)) (w.heap.size + 1) 0 p pa pc sa sc) := by
    have h9 := F0.at 1 rfl
    simp only [World.size_alloc] at h9
    exact ⟨h9 0 _ rfl, h9 1 _ rfl, h9 2 _ rfl⟩
  have HP := Lib.hid (h.below F0.below (Nat.le_refl _))
  have HV := Lib.hid (l04Ok_c _ _ _ _ r p pa sa pc sc _ HAT.out HPT.out HP.out m1 m2)
  have HB0 := Lib.hid F0.below
  have H0 := Lib.hid Z0
  clear F0 Z0
  unfold gfP
  cases hok : p.ok r
  all_goals (rw [hok] at HV; clear hok h)
  · rw [if_neg (by simp)]
    go_enter Try.func22, Try.ntmps22
    go_wp2_with fail
    refine HV.out.mono ?_
    rintro e wv ⟨rfl, nv, hwv⟩
    have hbv : Below (((w.alloc (.cells r.cells 24)).alloc (.cells (p.cells pa pc sa sc) 27)).alloc (.cells #[.int .i64 0, .int .i64 0, .bool false, .bool false, .bool false, .bool false, .bool false, .int .i64 0, .int .i64 0, .slice none 0 0, .slice none 0 0, .int .i64 0, .slice none 0 0, .slice none 0 0, .slice none 0 0, .int .i64 0, .int .i64 0] 29)).heap.size (((w.alloc (.cells r.cells 24)).alloc (.cells (p.cells pa pc sa sc) 27)).alloc (.cells #[.int .i64 0, .int .i64 0, .bool false, .bool false, .bool false, .bool false, .bool false, .int .i64 0, .int .i64 0, .slice none 0 0, .slice none 0 0, .int .i64 0, .slice none 0 0, .slice none 0 0, .slice none 0 0, .int .i64 0, .int .i64 0] 29)) wv := hwv ▸ below_draws _ _ nv
    have ZV := H0.out.below hbv (by simp)
    have BV := Lib.hid (below_next HB0.out hbv)
    have TH := Lib.hid (ZV.there)
    have ZF := Lib.hid (ZV.sets_all (vs := [.int .i64 0, .int .i64 0, .bool false, .bool false, .bool false, .bool false, .bool false, .int .i64 0, .int .i64 0, .slice none 0 0, .slice none 0 0, .int .i64 0, .slice none 0 0, .slice none 0 0, .slice none 0 0, .int .i64 0, .int .i64 0]) rfl)
    have zz := ZV.lt (by simp)
    clear hbv ZV hwv
    go_upto_region 2 with fail
    go_wp2_with (refine wpList_store_mid rfl 29 _ _ rfl _ _ #[.int .i64 0, .int .i64 0, .bool false, .bool false, .bool false, .bool false, .bool false, .int .i64 0, .int .i64 0, .slice none 0 0, .slice none 0 0, .int .i64 0, .slice none 0 0, .slice none 0 0, .slice none 0 0, .int .i64 0, .int .i64 0] rfl rfl TH.out (by kernel_rfl) (by simp [Value.oneCell']) ?_)
    refine bodyPost_ret (v := .tuple #[G.zero.val GA.none, .int .i64 1]) (results_bx2 Try.results22 _ rfl rfl _ ZF.out Try.underlying29 rfl (by kernel_rfl)) rfl ⟨GA.none, rfl, GP.nil _ _ (by rw [size_sets]; omega) _, below_sets (by omega) _ _ BV.out⟩
  · rw [if_pos rfl]
    go_enter Try.func22, Try.ntmps22
    go_wp2_with fail
    refine HV.out.mono ?_
    rintro e wv ⟨rfl, nv, hwv⟩
    have hbv : Below (((w.alloc (.cells r.cells 24)).alloc (.cells (p.cells pa pc sa sc) 27)).alloc (.cells #[.int .i64 0, .int .i64 0, .bool false, .bool false, .bool false, .bool false, .bool false, .int .i64 0, .int .i64 0, .slice none 0 0, .slice none 0 0, .int .i64 0, .slice none 0 0, .slice none 0 0, .slice none 0 0, .int .i64 0, .int .i64 0] 29)).heap.size (((w.alloc (.cells r.cells 24)).alloc (.cells (p.cells pa pc sa sc) 27)).alloc (.cells #[.int .i64 0, .int .i64 0, .bool false, .bool false, .bool false, .bool false, .bool false, .int .i64 0, .int .i64 0, .slice none 0 0, .slice none 0 0, .int .i64 0, .slice none 0 0, .slice none 0 0, .slice none 0 0, .int .i64 0, .int .i64 0] 29)) wv := hwv ▸ below_draws _ _ nv
    have ZV := Lib.hid (H0.out.below hbv (by simp))
    have BV := Lib.hid (below_next HB0.out hbv)
    have HN := Lib.hid (l08New_c _ _ _ _ r p pa sa pc sc wv (HAT.out.below hbv (by simp <;> omega)) (HPT.out.below' hbv (by simp <;> omega)) (HP.out.below hbv (Nat.le_refl _)) m1 m2)
    clear hbv hwv HV
    go_wp2_with fail
    refine HN.out.mono ?_
    rintro e w1 ⟨A, rfl, hg, hb1⟩
    have Z1 := ZV.out.below hb1 (ZV.out.lt (by simp))
    have zv := ZV.out.lt (by simp)
    have z1 := hb1.size
    have TH := Lib.hid Z1.there
    have ZF := Lib.hid (Z1.sets_all (vs := ((G.of r p).cells A).toList) rfl)
    have B1 := Lib.hid (below_next BV.out hb1)
    have HG := Lib.hid hg
    clear hb1 hg Z1 HN
    go_wp2_with (refine wpList_store_mid rfl 29 _ _ rfl _ _ ((G.of r p).cells A) rfl rfl TH.out (by kernel_rfl) (by simp [Value.oneCell', G.cells]) ?_)
    refine bodyPost_ret (v := .tuple #[(G.of r p).val A, .int .i64 0]) (results_bx2 Try.results22 _ rfl rfl _ ZF.out Try.underlying29 rfl (by kernel_rfl)) rfl ⟨A, rfl, ?_, below_sets (by omega) _ _ B1.out⟩
    rw [size_sets]
    have k9 := GP.stab _ _ _ _ w1 (w1.setCells (w.heap.size + 1 + 1) 0 ((G.of r p).cells A).toList) HG.out (fun k k1 k2 => (chg_sets _ _ _ w1).block k (by omega) (by omega))
    exact k9.le (by omega) (Nat.le_refl _)

end Go.Proofs.Yteabheocbkcmnaa
