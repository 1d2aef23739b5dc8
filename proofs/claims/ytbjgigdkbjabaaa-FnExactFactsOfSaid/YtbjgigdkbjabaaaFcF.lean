/- FcF: the facts of a move: the reference's functions, and the program's entry (printed by gen/fcf.py). Each contract holds for every argument, under the premises that it states. -/
import Derived.Test.YtbjgigdkbjabaaaFcI
import Derived.Test.YtbjgigdkbjabaaaFcL
namespace Go.Proofs.Ytbjgigdkbjabaaa
set_option linter.unusedSimpArgs false
set_option linter.unusedVariables false
set_option linter.unnecessarySimpa false
open Go.RowKit Go.ChangeShapes Go.WideShapes Go.ChangeAt Go.Joins

set_option maxHeartbeats 4000000 in
theorem iFactsOf_c (r : R) (p : P) (move : Int) (pa sa : Option Addr) (pc sc : Nat) (w : World) (h : PRow w p pa sa) (m1 : p.pits.length ≤ 16777216) (m2 : p.stores.length ≤ 16777216) (hc : p.pits.length ≤ pc) (hcm : pc ≤ maxLen) :
    Calls Try.prog 23 #[r.val, p.val pa pc sa sc, .int .i64 move] w (FcRes2 w (factsP r p move)) := by
  have F0 := ((Fr.start w).alloc r.cells 33).alloc (p.cells pa pc sa sc) 30
  have HC := Lib.hid (factsOf_c r p move pa sa pc sc _ (h.below F0.below (Nat.le_refl _)) m1 m2 hc hcm)
  have HB := Lib.hid F0.below
  have hz : w.heap.size ≤ ((w.alloc (.cells r.cells 33)).alloc (.cells (p.cells pa pc sa sc) 30)).heap.size := F0.below.size
  have HZ := Lib.hid hz
  obtain ⟨y, hy⟩ : ∃ y, y = factsP r p move := ⟨_, rfl⟩
  rw [← hy] at HC ⊢
  clear F0 hy h hz
  go_enter Try.func23, Try.ntmps23
  go_wp2_with fail
  refine HC.out.mono ?_
  rintro e w1 ⟨a, c, rfl, ho, hb⟩
  have HF : Hid (Pcs w1 w.heap.size (fcRL.pcs a c y.1) ∧ Below w.heap.size w w1) := by
    refine ⟨⟨fun q hq => ?_, ho.sep⟩, below_next HB.out hb⟩
    exact ownsRow_le (ho.all q hq) HZ.out
  clear ho hb HC HB HZ
  go_wp2
  go_ret2
  exact ⟨a, c, rfl, HF.out⟩

/-- a list that grows, with what it keeps -/
structure OtSt (K : Nat → Prop) (B : Nat) (w6 wr : World) (fa : Option Addr) (fc : Nat) (l : List Fc) : Prop where
  ow : wr.ownsRow B 95 3 (.slice fa l.length fc) l.length (flat fcRL.f l)
  bl : BelK K B w6 wr
  ak : ∀ k, (Value.slice fa l.length fc).ownBlock = some k → ¬ K k
  bB : B ≤ wr.heap.size
theorem OtSt.below {K : Nat → Prop} {B fc : Nat} {w6 wr w' : World} {fa : Option Addr} {l : List Fc} (h : OtSt K B w6 wr fa fc l) (hb : Below wr.heap.size wr w') : OtSt K B w6 w' fa fc l :=
  ⟨own_below h.ow hb (Nat.le_refl _), h.bl.below h.bB hb, h.ak, Nat.le_trans h.bB hb.size⟩
theorem OtSt.push {K : Nat → Prop} {B fc fc' : Nat} {w6 wr w2 : World} {fa fa' : Option Addr} {l : List Fc} {x : Fc} (h : OtSt K B w6 wr fa fc l) (hg : (wr.alloc (.cells x.cells 95)).grownBy w2 (Value.slice fa l.length fc).ownBlock)
    (ho : w2.ownsRow B 95 3 (.slice fa' (l.length + 1) fc') (l.length + 1) (flat fcRL.f l ++ x.cells.toList)) (hn : ∀ k, (Value.slice fa' (l.length + 1) fc').ownBlock = some k → (Value.slice fa l.length fc).ownBlock = some k ∨ wr.heap.size + 1 ≤ k) :
    OtSt K B w6 w2 fa' fc' (l ++ [x]) := by
  have h1 := h.below (below_alloc1 wr (.cells x.cells 95))
  have e : (l ++ [x]).length = l.length + 1 := by simp
  refine ⟨by rw [e, flat_append, flat_one]; exact ho, h1.bl.grown hg h1.bB (fun k hk => (h1.ow.lt k hk).1) h1.ak, ?_, Nat.le_trans h1.bB hg.size⟩
  rw [e]
  intro k hk hkk
  rcases hn k hk with e2 | e2
  · exact h.ak k e2 hkk
  · have a := h.bl.lt k hkk
    have b := h.bl.bel.size
    omega
set_option maxRecDepth 100000 in
set_option maxHeartbeats 32000000 in
theorem l11Facts_c (rb ro pb po : Nat) (r : R) (p : P) (move n : Int) (fn : Nat) (L : Lap) (pa sa : Option Addr) (pc sc : Nat) (w : World) (hr : R.At w rb ro r) (hp : P.At w pb po p pa pc sa sc) (h : PRow w p pa sa) (m1 : p.pits.length ≤ 16777216) (m2 : p.stores.length ≤ 16777216)
    (hd0 : (doneP r p move).code = 0) (hso : sowP r p.player (p.player * r.pits + move) p.pits p.stores = some (L, n)) (hfn : p.player * r.pits + move = fn) :
    Calls Try.prog 68 #[.pointer (some ⟨rb, ro, none⟩), .pointer (some ⟨pb, po, none⟩), .int .i64 move] w (FaRes w (allF r p fn L)) := by
  obtain ⟨i0, hi, hz0, hz1, hz2⟩ := info_partsFc infoFc
  obtain ⟨hc0, _⟩ := doneP_zero hd0
  obtain ⟨pn, fn', t, hpn, hpn1, hfn', hfl, hpos, hbd, hB, ht1, hok, hpl, hlen, _⟩ := facts_known hc0 hso
  obtain rfl : fn' = fn := by omega
  obtain ⟨_, _, _, tf, hBf, htf, hpof⟩ := sowP_brd hc0 hso
  have hag := again_last hd0 hso
  have hrb : rb < w.heap.size := World.block_lt_of_cell? w _ hr.c0
  have hpb : pb < w.heap.size := World.block_lt_of_cell? w _ hp.c0
  have HLP := Lib.hid (l11Laps_c rb ro pb po r p move fn' n L pa sa pc sc w hr hp h m1 m2 hc0 hso hfn')
  have HMV := Lib.hid (fun W (hW : Below w.heap.size w W) => l05Move_c rb ro pb po r p move pa sa pc sc W (hr.below hW hrb) (hp.below hW hpb) (h.below hW (Nat.le_refl _)) m1 m2)
  have HMK := Lib.hid (fun W (hW : Below w.heap.size w W) => l07Make_c rb ro pb po r p move pa sa pc sc W (hr.below hW hrb) (hp.below hW hpb) (h.below hW (Nat.le_refl _)) m1 m2)
  have HPL : Hid (∀ W, Below w.heap.size w W → W.cell? ⟨pb, po + 2, none⟩ = some (.int .i64 p.player)) := fun W hW => (hp.below hW hpb).c2
  have HRA : Hid (∀ W, Below w.heap.size w W → R.At W rb ro r) := fun W hW => hr.below hW hrb
  have hall : allIn L.pits = true := List.all_eq_true.2 (fun x hx => inB_iff.2 ((hBf.bp htf) x hx))
  have HPI : Hid (∀ W b0 ua uc va vc, Below w.heap.size w W → SnA W b0 0 L.pits L.stores L.last n ua uc va vc → Ints W ua L.pits → Calls Try.prog 116 #[.pointer (some ⟨rb, ro, none⟩), .pointer (some ⟨b0, 0, none⟩), .int .i64 p.player] W (IntsRes W (capP r p.player L.pits L.last))) := fun W b0 ua uc va vc hW h1 h2 => by
    rw [hpn]
    exact l06Pits_c rb ro b0 0 r hbd pn hpn1 L.pits L.stores L.last n ua va uc vc W (HRA.out W hW) h1 h2 hBf.lp hpof hall
  have HRW : Hid (∀ W b0 ua uc va vc, Below w.heap.size w W → SnA W b0 0 L.pits L.stores L.last n ua uc va vc → Ints W ua L.pits → Calls Try.prog 117 #[.pointer (some ⟨rb, ro, none⟩), .pointer (some ⟨b0, 0, none⟩), .int .i64 p.player] W (IntsRes W (rawP r p.player L.pits L.last))) := fun W b0 ua uc va vc hW h1 h2 => by
    rw [hpn]
    exact l06Raw_c rb ro b0 0 r hbd pn hpn1 L.pits L.stores L.last n ua va uc vc W (HRA.out W hW) h1 h2 hBf.lp hpof (fun x hx => by have := (hBf.bp htf) x hx; omega)
  obtain ⟨hck, hcl⟩ := capP_ok hbd p.player L.pits L.last hBf.lp hpof
  obtain ⟨hrk, hrl⟩ := rawP_ok hbd p.player L.pits L.last hBf.lp hpof
  have hlo := hbd.lo
  have hlpl := hBf.lp
  have HSM : Hid (∀ W b0 ua uc va vc la lc, SnA W b0 0 L.pits L.stores L.last n ua uc va vc → Ints W ua L.pits → Ints W la (rawP r p.player L.pits L.last) → Calls Try.prog 118 #[.pointer (some ⟨b0, 0, none⟩), .slice la (rawP r p.player L.pits L.last).length lc] W fun e w' => e = .returned (.int .i64 (gainP L.pits (rawP r p.player L.pits L.last))) ∧ ∃ m, w' = W.drewN m) := fun W b0 ua uc va vc la lc h1 h2 h3 =>
    l06Sum_c b0 0 L.pits L.stores _ L.last n ua va la uc vc lc W h1 h2 h3 (hBf.bp htf) hrk hrl (by omega)
  have HAL : Hid (allF r p (fn' : Int) L = lapsF r p.player fn' p.pits p.stores ++ capF L.pits (capP r p.player L.pits L.last) ++ spareF L.pits (capP r p.player L.pits L.last) (rawP r p.player L.pits L.last) L.last ++ endFc r L) := rfl
  obtain ⟨l0, hl0⟩ : ∃ x, x = lapsF r p.player fn' p.pits p.stores := ⟨_, rfl⟩
  obtain ⟨CAP, hCAP⟩ : ∃ C, C = capP r p.player L.pits L.last := ⟨_, rfl⟩
  obtain ⟨RAW, hRAW⟩ : ∃ C, C = rawP r p.player L.pits L.last := ⟨_, rfl⟩
  obtain ⟨y, hy⟩ : ∃ y, y = makeP r p move := ⟨_, rfl⟩
  rw [← hl0] at HLP HAL hlen
  rw [← hCAP] at HPI HAL hck hcl
  rw [← hRAW] at HRW HAL HSM hrk hrl
  have HCC := Lib.hid (⟨hc0, hso⟩ : _ ∧ _)
  have HYC : Hid (∀ W, Below w.heap.size w W → Calls Try.prog 113 #[.pointer (some ⟨rb, ro, none⟩), .pointer (some ⟨pb, po, none⟩), .int .i64 move] W (MkRes W y)) := fun W hW => by rw [hy]; exact HMK.out W hW
  have HAG : Hid (y.again = (r.again && decide (L.last = -1))) := by rw [hy]; exact hag
  have HCK := Lib.hid hck
  have HRK := Lib.hid hrk
  obtain ⟨AL, hAL⟩ : ∃ x, x = allF r p (fn' : Int) L := ⟨_, rfl⟩
  rw [← hAL] at HAL ⊢
  have hcl2 : CAP.length ≤ 16 := hcl
  have hrl2 : RAW.length ≤ 16 := hrl
  have hlen2 : l0.length ≤ 20000 := hlen
  clear hr hp h hB ht1 hok hlen hfl hpos hpn hpn1 hfn hfn' hc0 hso hag hall hBf htf hpof hck hrk hd0 hl0 hCAP hRAW hy HMK hAL hbd hcl hrl hlo hlpl hpl
  go_enter Try.func68, Try.ntmps68
  go_wp2_with fail
  refine HLP.out.mono ?_
  rintro e w1 ⟨fa, fc, rfl, ho1, hb1⟩
  have HO1 := Lib.hid ho1
  have HB1 := Lib.hid hb1
  clear ho1 hb1 HLP
  go_wp2_with fail
  refine (HMV.out _ HB1.out).mono ?_
  rintro e w2 hk
  rcases hk with ⟨c, hcz, hcc, _⟩ | ⟨L', n', ua, uc, va, vc, ta, tc, _, hso', rfl, hpo, _, hb2⟩
  · exfalso
    rcases hcc with rfl | ⟨_, h2, _⟩
    · exact hcz HCC.out.1
    · rw [HCC.out.2] at h2; cases h2
  rw [HCC.out.2] at hso'
  cases hso'
  have hb2' := below_next HB1.out hb2
  have hcp2 := HPL.out _ hb2'
  have zpb : pb < w2.heap.size := Nat.lt_of_lt_of_le hpb hb2'.size
  obtain ⟨WB, hWB⟩ : ∃ W, W = w2.alloc (.cells #[.slice ua L.pits.length uc, .slice va L.stores.length vc, .int .i64 L.last, .int .i64 n] 148) := ⟨_, rfl⟩
  have hbW : Below w2.heap.size w2 WB := by rw [hWB]; exact below_alloc1 _ _
  have hsn : SnA WB w2.heap.size 0 L.pits L.stores L.last n ua uc va vc := by
    rw [hWB]
    exact ⟨by simp [go_sem], by simp [go_sem], by simp [go_sem], by simp [go_sem]⟩
  have hip : Ints WB ua L.pits := (own_row hpo.pits).below hbW (Nat.le_refl _)
  have HPX := Lib.hid (HPI.out WB w2.heap.size ua uc va vc (below_next hb2' hbW) hsn hip)
  have HWB := Lib.hid hWB
  have HKP := Lib.hid (⟨hb2', hbW, hsn, hpo.pits, hb2⟩ : _ ∧ _ ∧ _ ∧ _ ∧ _)
  clear hb2 hb2' hbW hsn hip hpo hWB HMV HPI
  go_upto_region 3 with fail
  rw [← HWB.out]
  have hcpB : WB.cell? ⟨pb, po + 2, none⟩ = some (.int .i64 p.player) := (HKP.out.2.1.cell (show (Addr.mk pb (po + 2) none).block < _ from zpb)).trans hcp2
  clear hcp2
  go_wp2_with fail
  refine HPX.out.mono ?_
  rintro e w3 ⟨ka, kc, rfl, hka, hb3⟩
  obtain ⟨kb2', kbW, ksn, kpo, kb2⟩ := HKP.out
  have hszB : WB.heap.size = w2.heap.size + 1 := by rw [HWB.out]; simp
  have hb3w := below_next (below_next kb2' kbW) hb3
  obtain ⟨K3, hK3⟩ : ∃ K : Nat → Prop, K = fun k => k = w2.heap.size ∨ (Value.slice ua L.pits.length uc).ownBlock = some k ∨ (Value.slice ka CAP.length kc).ownBlock = some k := ⟨_, rfl⟩
  have hz3 := hb3.size
  have hpoW := own_below (own_below kpo kbW (Nat.le_refl _)) hb3 (Nat.le_refl _)
  have HOT0 : Hid (OtSt K3 w.heap.size w3 w3 fa fc l0) := by
    have ho3 := own_below (own_below (own_below HO1.out kb2 (Nat.le_refl _)) kbW (Nat.le_refl _)) hb3 (Nat.le_refl _)
    refine ⟨ho3, BelK.refl (fun k hk => ?_), fun k hk e => ?_, hb3w.size⟩
    · rw [hK3] at hk
      rcases hk with rfl | hk | hk
      · omega
      · exact (hpoW.lt k hk).2
      · exact (hka.lt k hk).2
    · have hlt1 := (HO1.out.lt k hk).2
      have hs2 := kb2.size
      rw [hK3] at e
      rcases e with e | e | e
      · omega
      · have := (kpo.lt k e).1
        omega
      · have := (hka.lt k e).1
        omega
  have HC6 : Hid (∀ W, BelK K3 w.heap.size w3 W → Below w.heap.size w W ∧ SnA W w2.heap.size 0 L.pits L.stores L.last n ua uc va vc ∧ Ints W ua L.pits ∧ Ints W ka CAP) := fun W hW => by
    have ks := hW.keep w2.heap.size (by rw [hK3]; exact .inl rfl)
    have s3 := ksn.below hb3 (by omega)
    refine ⟨hb3w.trans hW.bel, ⟨cell_stab s3.c0 ks, cell_stab s3.c1 ks, cell_stab s3.c2 ks, cell_stab s3.c3 ks⟩, own_row (own_keep hpoW (fun k hk => hW.keep k (by rw [hK3]; exact .inr (.inl hk)))), own_row (own_keep hka (fun k hk => hW.keep k (by rw [hK3]; exact .inr (.inr hk))))⟩
  have HKK : Hid (K3 w2.heap.size ∧ (∀ k, (Value.slice ua L.pits.length uc).ownBlock = some k → K3 k) ∧ (∀ k, (Value.slice ka CAP.length kc).ownBlock = some k → K3 k)) := by
    rw [hK3]
    exact ⟨.inl rfl, fun k hk => .inr (.inl hk), fun k hk => .inr (.inr hk)⟩
  have HKO : Hid (∀ W, BelK K3 w.heap.size w3 W → (∀ b o, ua = some ⟨b, o, none⟩ → 0 < L.pits.length → K3 b) ∧ (∀ b o, ka = some ⟨b, o, none⟩ → 0 < CAP.length → K3 b)) := fun W hW => by
    refine ⟨fun b o e hl => ?_, fun b o e hl => ?_⟩
    · obtain ⟨g, e2, _, _⟩ := own_lt_n kpo hl
      rw [e] at e2
      cases e2
      exact HKK.out.2.1 b (by rw [e]; rfl)
    · obtain ⟨g, e2, _, _⟩ := own_lt_n hka hl
      rw [e] at e2
      cases e2
      exact HKK.out.2.2 b (by rw [e]; rfl)
  have HWK : Hid (w.heap.size ≤ w3.heap.size) := hb3w.size
  clear kb2' kbW ksn kpo kb2 hszB hb3w hK3 hz3 hpoW hka hb3 HPX HKP HWB HO1 HB1 hcpB zpb
  go_wp2_with fail
  go_loopw [7, 12] (fun o i wr => ∃ (j : Nat) (fa : Option Addr) (fc : Nat), i = .int .i64 (j : Int) ∧ o = .slice fa (l0 ++ capF L.pits (CAP.take j)).length fc ∧ j ≤ CAP.length ∧ Hid (OtSt K3 w.heap.size w3 wr fa fc (l0 ++ capF L.pits (CAP.take j)))) (fun _ i _ => CAP.length - (intOf i).toNat)
  case atStart =>
    have e : l0 ++ capF L.pits (CAP.take 0) = l0 := by simp [capF]
    refine ⟨0, fa, fc, rfl, by rw [e], Nat.zero_le _, ?_⟩
    rw [e]
    exact HOT0
  case round =>
    clear HOT0
    obtain ⟨j, fa, fc, rfl, rfl, hj, HOT⟩ := hrel
    by_cases hlt : j < CAP.length
    · have hjI : (j : Int) < (CAP.length : Int) := by omega
      have hot := HOT.out
      obtain ⟨_, hsn, hrp, hrc⟩ := HC6.out _ hot.bl
      obtain ⟨kb, ko, rfl, hkb, hkc⟩ := Row.at hrc (by simp; omega)
      obtain ⟨q, hq⟩ : ∃ q, q = CAP[j] := ⟨_, rfl⟩
      have hcell : wr.cell? ⟨kb, ko + j, none⟩ = some (.int .i64 q) := hkc j _ (by simp [hlt, hq])
      have hqk := HCK.out.1 q (by rw [hq]; exact List.getElem_mem hlt)
      obtain ⟨qn, rfl⟩ : ∃ qn : Nat, q = qn := ⟨q.toNat, by omega⟩
      have hqn : qn < L.pits.length := by omega
      have hqI : (qn : Int) < (L.pits.length : Int) := by omega
      obtain ⟨v, hv⟩ : ∃ v, v = L.pits[qn] := ⟨_, rfl⟩
      obtain ⟨ub, uo, rfl, hub, huc⟩ := Row.at hrp (by simp; omega)
      have qcell : wr.cell? ⟨ub, uo + qn, none⟩ = some (.int .i64 v) := huc qn _ (by simp [hqn, hv])
      have hK1 := (HKO.out _ hot.bl).2 kb ko rfl (by omega)
      have hK2 := (HKO.out _ hot.bl).1 ub uo rfl (by omega)
      have a0 := hsn.c0
      have HNE : Hid (l0 ++ capF L.pits (CAP.take (j + 1)) = (l0 ++ capF L.pits (CAP.take j)) ++ [⟨3, (qn : Int), v⟩]) := by
        unfold Hid
        rw [capF_succ _ _ hlt, ← hq, List.append_assoc, hv]
        simp [hqn]
      obtain ⟨M, hM⟩ : ∃ M, M = l0 ++ capF L.pits (CAP.take j) := ⟨_, rfl⟩
      have hMl : M.length ≤ 30000 := by
        rw [hM]
        simp [capF]
        omega
      rw [← hM] at HOT hot HNE ⊢
      have HBX : Hid (BoxP wr.heap.size (Fc.cells ⟨3, (qn : Int), v⟩).toList (wr.alloc (.cells (Fc.cells ⟨3, (qn : Int), v⟩) 95))) := ((Fr.start wr).alloc (Fc.cells ⟨3, (qn : Int), v⟩) 95).at 0 rfl
      have HT := Lib.hid (hot.below (below_alloc1 wr (.cells (Fc.cells ⟨3, (qn : Int), v⟩) 95)))
      have hwk : IntKind.i64.wrap ((j : Int) + 1) = (j : Int) + 1 := IntWalk.i64_in _ (by omega)
      have hbB := hot.bB
      have zkb : kb < wr.heap.size := World.block_lt_of_cell? wr _ hcell
      have zub : ub < wr.heap.size := World.block_lt_of_cell? wr _ qcell
      have zsb : w2.heap.size < wr.heap.size := World.block_lt_of_cell? wr _ a0
      have HKS : Hid (∀ W : World, W.heap[kb]? = wr.heap[kb]? → W.heap[w2.heap.size]? = wr.heap[w2.heap.size]? → W.heap[ub]? = wr.heap[ub]? → (W.cell? ⟨kb, ko + j, none⟩ = some (.int .i64 (qn : Int)) ∧ W.cell? ⟨w2.heap.size, 0, none⟩ = some (.slice (some ⟨ub, uo, none⟩) L.pits.length uc) ∧ W.cell? ⟨ub, uo + qn, none⟩ = some (.int .i64 v))) := fun W h1 h2 h3 => ⟨cell_stab hcell h1, cell_stab a0 h2, cell_stab qcell h3⟩
      have HKR : Hid (∀ w7 : World, (wr.alloc (.cells (Fc.cells ⟨3, (qn : Int), v⟩) 95)).grownBy w7 (Value.slice fa M.length fc).ownBlock → w7.heap[kb]? = wr.heap[kb]? ∧ w7.heap[w2.heap.size]? = wr.heap[w2.heap.size]? ∧ w7.heap[ub]? = wr.heap[ub]?) := fun w7 hg =>
        ⟨(hg.block kb (by simp; omega) (fun e => hot.ak kb e.symm hK1)).trans (Below.heap_alloc _ _ _ zkb), (hg.block _ (by simp; omega) (fun e => hot.ak _ e.symm HKK.out.1)).trans (Below.heap_alloc _ _ _ zsb), (hg.block ub (by simp; omega) (fun e => hot.ak ub e.symm hK2)).trans (Below.heap_alloc _ _ _ zub)⟩
      have HOT2 := Lib.hid hot
      clear hot hrp hrc hkc huc hqk hq hv hM hsn hK1 hK2
      go_wp2_with fail
      refine heldH (S := fun W => W.cell? ⟨kb, ko + j, none⟩ = some (.int .i64 (qn : Int)) ∧ W.cell? ⟨w2.heap.size, 0, none⟩ = some (.slice (some ⟨ub, uo, none⟩) L.pits.length uc) ∧ W.cell? ⟨ub, uo + qn, none⟩ = some (.int .i64 v)) (n := 17) (listed := #[false, false, false, false, false, false, false, false, false, false, false, false, false, false, false, false, false]) (by kernel_rfl) (by rfl) (by rfl) ?_ (fun hHeld => ?_)
      (focus ((try dsimp only); (first | done | ((first | exact HKS.out _ rfl rfl rfl | exact HKS.out _ (Below.heap_alloc _ _ _ zkb) (Below.heap_alloc _ _ _ zsb) (Below.heap_alloc _ _ _ zub) | exact HKS.out _ e7.1 e7.2.1 e7.2.2); done))))
      (refine takeH (i := 0) (v := ?_) (by decide +kernel) (by decide +kernel) (by kernel_rfl) (by rfl) (by exact fun _ _ _ h => h) (by rfl) ?_ (by assumption) ?_); rotate_left; (focus (intro w hSw; (try dsimp only at hSw); go_simp; (try with_reducible rfl); done)); (try simp only [Act.put, List.setIfInBounds_toArray, List.set_cons_zero, List.set_cons_succ])
      (refine takeH (i := 1) (v := ?_) (by decide +kernel) (by decide +kernel) (by kernel_rfl) (by rfl) (by exact fun _ _ _ h => h) (by rfl) ?_ (by assumption) ?_); rotate_left; (focus (intro w hSw; (try dsimp only at hSw); go_simp; (try with_reducible rfl); done)); (try simp only [Act.put, List.setIfInBounds_toArray, List.set_cons_zero, List.set_cons_succ])
      (refine takeH (i := 2) (v := ?_) (by decide +kernel) (by decide +kernel) (by kernel_rfl) (by rfl) (by exact fun _ _ _ h => h) (by rfl) ?_ (by assumption) ?_); rotate_left; (focus (intro w hSw; (try dsimp only at hSw); go_simp; (try with_reducible rfl); done)); (try simp only [Act.put, List.setIfInBounds_toArray, List.set_cons_zero, List.set_cons_succ])
      (refine takeH (i := 3) (v := ?_) (by decide +kernel) (by decide +kernel) (by kernel_rfl) (by rfl) (by exact fun _ _ _ h => h) (by rfl) ?_ (by assumption) ?_); rotate_left; (focus (intro w hSw; (try dsimp only at hSw); go_simp; (try with_reducible rfl); done)); (try simp only [Act.put, List.setIfInBounds_toArray, List.set_cons_zero, List.set_cons_succ])
      (refine takeH (i := 4) (v := ?_) (by decide +kernel) (by decide +kernel) (by kernel_rfl) (by rfl) (by exact fun _ _ _ h => h) (by rfl) ?_ (by assumption) ?_); rotate_left; (focus (intro w hSw; (try dsimp only at hSw); go_simp; (try with_reducible rfl); done)); (try simp only [Act.put, List.setIfInBounds_toArray, List.set_cons_zero, List.set_cons_succ])
      (refine takeH (i := 5) (v := ?_) (by decide +kernel) (by decide +kernel) (by kernel_rfl) (by rfl) (by exact fun _ _ _ h => h) (by rfl) ?_ (by assumption) ?_); rotate_left; (focus (intro w hSw; (try dsimp only at hSw); go_simp; (try with_reducible rfl); done)); (try simp only [Act.put, List.setIfInBounds_toArray, List.set_cons_zero, List.set_cons_succ])
      (refine takeH (i := 6) (v := ?_) (by decide +kernel) (by decide +kernel) (by kernel_rfl) (by rfl) (by exact fun _ _ _ h => h) (by rfl) ?_ (by assumption) ?_); rotate_left; (focus (intro w hSw; (try dsimp only at hSw); go_simp; (try with_reducible rfl); done)); (try simp only [Act.put, List.setIfInBounds_toArray, List.set_cons_zero, List.set_cons_succ])
      (refine takeH (i := 7) (v := ?_) (by decide +kernel) (by decide +kernel) (by kernel_rfl) (by rfl) (by exact fun _ _ _ h => h) (by rfl) ?_ (by assumption) ?_); rotate_left; (focus (intro w hSw; (try dsimp only at hSw); go_simp; (try with_reducible rfl); done)); (try simp only [Act.put, List.setIfInBounds_toArray, List.set_cons_zero, List.set_cons_succ])
      (refine takeH (i := 8) (v := ?_) (by decide +kernel) (by decide +kernel) (by kernel_rfl) (by rfl) (by exact fun _ _ _ h => h) (by rfl) ?_ (by assumption) ?_); rotate_left; (focus (intro w hSw; (try dsimp only at hSw); go_simp; (try with_reducible rfl); done)); (try simp only [Act.put, List.setIfInBounds_toArray, List.set_cons_zero, List.set_cons_succ])
      (refine takeH (i := 9) (v := ?_) (by decide +kernel) (by decide +kernel) (by kernel_rfl) (by rfl) (by exact fun _ _ _ h => h) (by rfl) ?_ (by assumption) ?_); rotate_left; (focus (intro w hSw; (try dsimp only at hSw); go_simp; (try with_reducible rfl); done)); (try simp only [Act.put, List.setIfInBounds_toArray, List.set_cons_zero, List.set_cons_succ])
      (refine takeH (i := 10) (v := ?_) (by decide +kernel) (by decide +kernel) (by kernel_rfl) (by rfl) (by exact fun _ _ _ h => h) (by rfl) ?_ (by assumption) ?_); rotate_left; (focus (intro w hSw; (try dsimp only at hSw); go_simp; (try with_reducible rfl); done)); (try simp only [Act.put, List.setIfInBounds_toArray, List.set_cons_zero, List.set_cons_succ])
      (refine takeH (i := 11) (v := ?_) (by decide +kernel) (by decide +kernel) (by kernel_rfl) (by rfl) (by exact fun _ _ _ h => h) (by rfl) ?_ (by assumption) ?_); rotate_left; (focus (intro w hSw; (try dsimp only at hSw); go_simp; (try with_reducible rfl); done)); (try simp only [Act.put, List.setIfInBounds_toArray, List.set_cons_zero, List.set_cons_succ])
      (refine takeH (i := 12) (v := ?_) (by decide +kernel) (by decide +kernel) (by kernel_rfl) (by rfl) (by exact fun _ _ _ h => h) (by rfl) ?_ (by assumption) ?_); rotate_left; (focus (intro w hSw; (try dsimp only at hSw); go_simp; (try with_reducible rfl); done)); (try simp only [Act.put, List.setIfInBounds_toArray, List.set_cons_zero, List.set_cons_succ])
      (refine takeH (i := 13) (v := ?_) (by decide +kernel) (by decide +kernel) (by kernel_rfl) (by rfl) (by exact fun _ _ _ h => h) (by rfl) ?_ (by assumption) ?_); rotate_left; (focus (intro w hSw; (try dsimp only at hSw); go_simp; (try with_reducible rfl); done)); (try simp only [Act.put, List.setIfInBounds_toArray, List.set_cons_zero, List.set_cons_succ])
      refine nextH (i := 14) (by decide +kernel) (by rfl) (by rfl) (fun K hK => ?_)
      go_simp
      (skip)
      refine hK.out _ _ ?_ (fun hHeld' => ?_)
      (focus ((try dsimp only); (first | done | ((first | exact HKS.out _ rfl rfl rfl | exact HKS.out _ (Below.heap_alloc _ _ _ zkb) (Below.heap_alloc _ _ _ zsb) (Below.heap_alloc _ _ _ zub) | exact HKS.out _ e7.1 e7.2.1 e7.2.2); done))))
      clear hK K hHeld
      have hHeld := hHeld'
      clear hHeld'
      (try simp only [Act.put, List.setIfInBounds_toArray, List.set_cons_zero, List.set_cons_succ])
      refine nextH (i := 15) (by decide +kernel) (by rfl) (by rfl) (fun K hK => ?_)
      ((refine wp_append_lies _ _ _ 36 rfl w.heap.size 95 i0 (.agg #[.int .i64 0, .int .i64 0, .int .i64 0]) 3 24 Try.underlying36 hi hz0 hz1 hz2 rfl (by decide) (.slice fa M.length fc) M.length (flat fcRL.f M) rfl (World.ownsRow.drew HT.out.ow) ⟨wr.heap.size, 0, none⟩ 1 1 (Fc.cells ⟨3, (qn : Int), v⟩).toList rfl rfl (fun j u hu => by rw [addr_addT, Nat.zero_add]; exact HBX.out j u hu) (by intro u hu; simp [Fc.cells] at hu; rcases hu with rfl | rfl | rfl <;> rfl) (by decide) (by unfold maxLen; omega) (by omega) (by simp; omega) _ rfl ?_); (intro g7 c7 w7 ho7 hg7 hat7 hlt7); (have hg8 := grown_undrew hg7); (have e7 := HKR.out w7 hg8))
      refine hK.out _ _ ?_ (fun hHeld' => ?_)
      (focus ((try dsimp only); (first | done | ((first | exact HKS.out _ rfl rfl rfl | exact HKS.out _ (Below.heap_alloc _ _ _ zkb) (Below.heap_alloc _ _ _ zsb) (Below.heap_alloc _ _ _ zub) | exact HKS.out _ e7.1 e7.2.1 e7.2.2); done))))
      clear hK K hHeld
      have hHeld := hHeld'
      clear hHeld'
      (try simp only [Act.put, List.setIfInBounds_toArray, List.set_cons_zero, List.set_cons_succ])
      (refine takeH (i := 16) (v := ?_) (by decide +kernel) (by decide +kernel) (by kernel_rfl) (by rfl) (by exact fun _ _ _ h => h) (by rfl) ?_ (by assumption) ?_); rotate_left; (focus (intro w hSw; (try dsimp only at hSw); go_simp; (try with_reducible rfl); done)); (try simp only [Act.put, List.setIfInBounds_toArray, List.set_cons_zero, List.set_cons_succ])
      refine wpAnyH_done (by decide +kernel) ?_ _
      have HNXT : Hid (OtSt K3 w.heap.size w3 w7 (some ⟨g7, 0, none⟩) c7 (l0 ++ capF L.pits (CAP.take (j + 1)))) := by
        unfold Hid
        rw [HNE.out]
        exact HOT2.out.push hg8 ho7 (fun k hk => by
          cases hk
          rcases hat7 with h | h
          · exact .inl h
          · refine .inr ?_
            have h9 : g7 = wr.heap.size + 1 := by simpa using h
            show wr.heap.size + 1 ≤ g7
            omega)
      have hle : (l0 ++ capF L.pits (CAP.take (j + 1))).length = M.length + 1 := by rw [HNE.out]; simp
      have HLE := Lib.hid hle
      clear hHeld ho7 hg7 hat7 hlt7 hg8 e7 hle
      go_wp2
      go_roundw
      case rel => exact ⟨j + 1, _, _, by go_num, by rw [HLE.out], by omega, HNXT⟩
      case measure => simp [intOf]; omega
    · have hje : j = CAP.length := by omega
      have hjI : ¬ (j : Int) < (CAP.length : Int) := by omega
      rw [hje, List.take_length] at HOT ⊢
      obtain ⟨M, hM⟩ : ∃ M, M = l0 ++ capF L.pits CAP := ⟨_, rfl⟩
      have hMl : M.length ≤ 30000 := by rw [hM]; simp [capF]; omega
      rw [← hM] at HOT HAL ⊢
      have hot := HOT.out
      obtain ⟨hbw, hsn, hrp, hrc⟩ := HC6.out _ hot.bl
      have HRX := Lib.hid (HRW.out wr w2.heap.size ua uc va vc hbw hsn hrp)
      have hcp := HPL.out _ hbw
      clear hot hbw hsn hrp hrc hM hje hj hlt HRW
      go_wp2_with fail
      refine HRX.out.mono ?_
      rintro e w8 ⟨ra, rc, rfl, hra, hb8⟩
      have HOT8 := Lib.hid (HOT.out.below hb8)
      have HRR : Hid (∀ W, Below w8.heap.size w8 W → Ints W ra RAW) := fun W hW => (own_row hra).below hW (Nat.le_refl _)
      clear hra hb8 HRX HOT hcp
      by_cases hca : CAP = [] ∧ ¬ RAW = []
      · obtain ⟨hc0, hr0⟩ := hca
        have HSP : Hid (spareF L.pits CAP RAW L.last = [⟨4, L.last, gainP L.pits RAW⟩]) := if_pos ⟨hc0, hr0⟩
        have hrp0 : (0 : Int) < (RAW.length : Int) := by
          have : 0 < RAW.length := List.length_pos_iff.2 hr0
          omega
        have hcl0 : CAP.length = 0 := by rw [hc0]; rfl
        have hci0 : ((CAP.length : Int) == 0) = true := by rw [hcl0]; rfl
        have hot := HOT8.out
        obtain ⟨_, hsn, hrp, _⟩ := HC6.out _ hot.bl
        have HSX := Lib.hid (HSM.out w8.drew w2.heap.size ua uc va vc ra rc ⟨hsn.c0, hsn.c1, hsn.c2, hsn.c3⟩ (hrp.below (Below.refl w8.heap.size w8).drew (Nat.le_refl _)) (HRR.out _ (Below.refl _ _).drew))
        obtain ⟨G, hG⟩ : ∃ G, G = gainP L.pits RAW := ⟨_, rfl⟩
        rw [← hG] at HSP HSX
        have a2 := hsn.c2
        have zsb : w2.heap.size < w8.heap.size := World.block_lt_of_cell? w8 _ a2
        simp only [Nat.zero_add] at a2
        have hbB := hot.bB
        have HSD : Hid (∀ W : World, W.heap[w2.heap.size]? = w8.heap[w2.heap.size]? → W.cell? ⟨w2.heap.size, 2, none⟩ = some (.int .i64 L.last)) := fun W h1 => cell_stab a2 h1
        clear hc0 hr0 hsn hrp hG hcl0 HSM hot
        go_wp2_with fail
        refine heldH (S := fun W => W.cell? ⟨w2.heap.size, 2, none⟩ = some (.int .i64 L.last)) (n := 9) (listed := #[false, false, false, false, false, false, false, false, false]) (by kernel_rfl) (by rfl) (by rfl) ?_ (fun hHeld => ?_)
        (focus ((try dsimp only); (first | done | ((first | exact HSD.out _ rfl | exact HSD.out _ e9 | exact HSD.out _ ((Below.heap_alloc _ _ _ zs9).trans e9) | exact HSD.out _ e7); done))))
        (refine takeH (i := 0) (v := ?_) (by decide +kernel) (by decide +kernel) (by kernel_rfl) (by rfl) (by exact fun _ _ _ h => h) (by rfl) ?_ (by assumption) ?_); rotate_left; (focus (intro w hSw; (try dsimp only at hSw); go_simp; (try with_reducible rfl); done)); (try simp only [Act.put, List.setIfInBounds_toArray, List.set_cons_zero, List.set_cons_succ])
        (refine takeH (i := 1) (v := ?_) (by decide +kernel) (by decide +kernel) (by kernel_rfl) (by rfl) (by exact fun _ _ _ h => h) (by rfl) ?_ (by assumption) ?_); rotate_left; (focus (intro w hSw; (try dsimp only at hSw); go_simp; (try with_reducible rfl); done)); (try simp only [Act.put, List.setIfInBounds_toArray, List.set_cons_zero, List.set_cons_succ])
        (refine takeH (i := 2) (v := ?_) (by decide +kernel) (by decide +kernel) (by kernel_rfl) (by rfl) (by exact fun _ _ _ h => h) (by rfl) ?_ (by assumption) ?_); rotate_left; (focus (intro w hSw; (try dsimp only at hSw); go_simp; (try with_reducible rfl); done)); (try simp only [Act.put, List.setIfInBounds_toArray, List.set_cons_zero, List.set_cons_succ])
        (refine takeH (i := 3) (v := ?_) (by decide +kernel) (by decide +kernel) (by kernel_rfl) (by rfl) (by exact fun _ _ _ h => h) (by rfl) ?_ (by assumption) ?_); rotate_left; (focus (intro w hSw; (try dsimp only at hSw); go_simp; (try with_reducible rfl); done)); (try simp only [Act.put, List.setIfInBounds_toArray, List.set_cons_zero, List.set_cons_succ])
        refine nextH (i := 4) (by decide +kernel) (by rfl) (by rfl) (fun K hK => ?_)
        (go_simp; go_at_call 118; (refine HSX.out.mono ?_); (rintro e w9 ⟨rfl, m9, hw9⟩); (have hb9 : Below w8.heap.size w8 w9 := by rw [hw9]; exact (Below.refl _ _).drew.trans (below_draws _ _ _)); (have e9 : w9.heap[w2.heap.size]? = w8.heap[w2.heap.size]? := hb9.block _ zsb); (have zs9 : w2.heap.size < w9.heap.size := Nat.lt_of_lt_of_le zsb hb9.size); (have HO9 := Lib.hid (HOT8.out.below hb9)); (have hbB9 := HO9.out.bB); (clear hw9); (have HBX : Hid (BoxP w9.heap.size (Fc.cells ⟨4, L.last, G⟩).toList (w9.alloc (.cells (Fc.cells ⟨4, L.last, G⟩) 95))) := ((Fr.start w9).alloc (Fc.cells ⟨4, L.last, G⟩) 95).at 0 rfl); (have HT := Lib.hid (HO9.out.below (below_alloc1 w9 (.cells (Fc.cells ⟨4, L.last, G⟩) 95)))))
        refine hK.out _ _ ?_ (fun hHeld' => ?_)
        (focus ((try dsimp only); (first | done | ((first | exact HSD.out _ rfl | exact HSD.out _ e9 | exact HSD.out _ ((Below.heap_alloc _ _ _ zs9).trans e9) | exact HSD.out _ e7); done))))
        clear hK K hHeld
        have hHeld := hHeld'
        clear hHeld'
        (try simp only [Act.put, List.setIfInBounds_toArray, List.set_cons_zero, List.set_cons_succ])
        (refine takeH (i := 5) (v := ?_) (by decide +kernel) (by decide +kernel) (by kernel_rfl) (by rfl) (by exact fun _ _ _ h => h) (by rfl) ?_ (by assumption) ?_); rotate_left; (focus (intro w hSw; (try dsimp only at hSw); go_simp; (try with_reducible rfl); done)); (try simp only [Act.put, List.setIfInBounds_toArray, List.set_cons_zero, List.set_cons_succ])
        refine nextH (i := 6) (by decide +kernel) (by rfl) (by rfl) (fun K hK => ?_)
        go_simp
        (skip)
        refine hK.out _ _ ?_ (fun hHeld' => ?_)
        (focus ((try dsimp only); (first | done | ((first | exact HSD.out _ rfl | exact HSD.out _ e9 | exact HSD.out _ ((Below.heap_alloc _ _ _ zs9).trans e9) | exact HSD.out _ e7); done))))
        clear hK K hHeld
        have hHeld := hHeld'
        clear hHeld'
        (try simp only [Act.put, List.setIfInBounds_toArray, List.set_cons_zero, List.set_cons_succ])
        refine nextH (i := 7) (by decide +kernel) (by rfl) (by rfl) (fun K hK => ?_)
        ((refine wp_append_lies _ _ _ 36 rfl w.heap.size 95 i0 (.agg #[.int .i64 0, .int .i64 0, .int .i64 0]) 3 24 Try.underlying36 hi hz0 hz1 hz2 rfl (by decide) (.slice fa M.length fc) M.length (flat fcRL.f M) rfl HT.out.ow ⟨w9.heap.size, 0, none⟩ 1 1 (Fc.cells ⟨4, L.last, G⟩).toList rfl rfl (fun j u hu => by rw [addr_addT, Nat.zero_add]; exact HBX.out j u hu) (by intro u hu; simp [Fc.cells] at hu; rcases hu with rfl | rfl | rfl <;> rfl) (by decide) (by unfold maxLen; omega) (by omega) (by simp; omega) _ rfl ?_); (intro g7 c7 w7 ho7 hg7 hat7 hlt7); (have e7 : w7.heap[w2.heap.size]? = w8.heap[w2.heap.size]? := ((hg7.block _ (by simp; omega) (fun e => HO9.out.ak _ e.symm HKK.out.1)).trans (Below.heap_alloc _ _ _ zs9)).trans e9))
        refine hK.out _ _ ?_ (fun hHeld' => ?_)
        (focus ((try dsimp only); (first | done | ((first | exact HSD.out _ rfl | exact HSD.out _ e9 | exact HSD.out _ ((Below.heap_alloc _ _ _ zs9).trans e9) | exact HSD.out _ e7); done))))
        clear hK K hHeld
        have hHeld := hHeld'
        clear hHeld'
        (try simp only [Act.put, List.setIfInBounds_toArray, List.set_cons_zero, List.set_cons_succ])
        (refine takeH (i := 8) (v := ?_) (by decide +kernel) (by decide +kernel) (by kernel_rfl) (by rfl) (by exact fun _ _ _ h => h) (by rfl) ?_ (by assumption) ?_); rotate_left; (focus (intro w hSw; (try dsimp only at hSw); go_simp; (try with_reducible rfl); done)); (try simp only [Act.put, List.setIfInBounds_toArray, List.set_cons_zero, List.set_cons_succ])
        refine wpAnyH_done (by decide +kernel) ?_ _
        have HOZ : Hid (OtSt K3 w.heap.size w3 w7 (some ⟨g7, 0, none⟩) c7 (M ++ [⟨4, L.last, G⟩])) := by
          refine HO9.out.push hg7 ho7 (fun k hk => ?_)
          cases hk
          rcases hat7 with h | h
          · exact .inl h
          · refine .inr ?_
            have h9 : g7 = w9.heap.size + 1 := by simpa using h
            show w9.heap.size + 1 ≤ g7
            omega
        have HE3 : Hid (AL = (M ++ [⟨4, L.last, G⟩]) ++ endFc r L) := by unfold Hid; rw [HAL.out, HSP.out]
        obtain ⟨MZ, hMZ⟩ : ∃ M', M' = M ++ [(⟨4, L.last, G⟩ : Fc)] := ⟨_, rfl⟩
        have hMZl : MZ.length ≤ 30001 := by rw [hMZ]; simp; omega
        have hMZe : MZ.length = M.length + 1 := by rw [hMZ]; simp
        rw [← hMZ] at HOZ HE3
        rw [← hMZe]
        clear hHeld ho7 hg7 hat7 hlt7 e7 hMZ hMZe HBX HT HSD HO9 hbB9 hMl e9 zs9 zsb a2 hb9 HSX hbB
        have hoz := HOZ.out
        have hbz := (HC6.out _ hoz.bl).1
        have HYX := Lib.hid (HYC.out w7 hbz)
        clear hoz hbz
        go_wp2_with fail
        refine HYX.out.mono ?_
        rintro e w10 ⟨xa, xc, ya, yc, rfl, _, hb10⟩
        have HO10 := Lib.hid (HOZ.out.below hb10)
        clear hb10 HYX
        have hag2 := HAG.out
        rcases Bool.eq_false_or_eq_true y.again with hyb | hyb
        · have HEB : Hid (AL = MZ ++ [⟨5, 0, 0⟩]) := by
            unfold Hid
            rw [HE3.out]
            unfold endFc
            rw [← hag2, hyb]
            rfl
          have hbx := below_alloc1 w10 (.cells #[.int .i64 y.move, .int .i64 y.gain, .bool y.again, .slice xa y.pits.length xc, .slice ya y.stores.length yc, .int .i64 y.player] 144)
          have HO11 := Lib.hid (HO10.out.below hbx)
          obtain ⟨WR, hWR⟩ : ∃ W, W = w10.alloc (.cells #[.int .i64 y.move, .int .i64 y.gain, .bool y.again, .slice xa y.pits.length xc, .slice ya y.stores.length yc, .int .i64 y.player] 144) := ⟨_, rfl⟩
          have xr : WR.cell? ⟨w10.heap.size, 2, none⟩ = some (.bool true) := by rw [hWR, ← hyb]; simp [go_sem]
          rw [← hWR] at HO11
          have HWR := Lib.hid hWR
          have hbB := HO11.out.bB
          have HBX : Hid (BoxP WR.heap.size (Fc.cells ⟨5, 0, 0⟩).toList (WR.alloc (.cells (Fc.cells ⟨5, 0, 0⟩) 95))) := ((Fr.start WR).alloc (Fc.cells ⟨5, 0, 0⟩) 95).at 0 rfl
          have HT := Lib.hid (HO11.out.below (below_alloc1 WR (.cells (Fc.cells ⟨5, 0, 0⟩) 95)))
          clear hWR hag2 hyb hbx
          go_upto_region 12 with fail
          rw [← HWR.out]
          go_wp2_with (at_builtin; refine wpList_append_own2 _ rfl _ _ 36 rfl w.heap.size 95 i0 (.agg #[.int .i64 0, .int .i64 0, .int .i64 0]) 3 24 Try.underlying36 hi hz0 hz1 hz2 rfl (by decide) (.slice (some ⟨g7, 0, none⟩) MZ.length c7) MZ.length (flat fcRL.f MZ) rfl HT.out.ow ⟨WR.heap.size, 0, none⟩ 1 1 (Fc.cells ⟨5, 0, 0⟩).toList rfl rfl (fun j u hu => by rw [addr_addT, Nat.zero_add]; exact HBX.out j u hu) (by intro u hu; simp [Fc.cells] at hu; rcases hu with rfl | rfl | rfl <;> rfl) (by unfold maxLen; omega) (by omega) (by simp; omega) ?_)
          intro ad9 c9 w9 ho9 hg9 hn9
          have hp9 := HO11.out.push (x := ⟨5, 0, 0⟩) hg9 ho9 (fun k hk => by have := hn9 k hk; simpa using this)
          have HF : Hid (w9.ownsRow w.heap.size 95 3 (.slice ad9 (MZ.length + 1) c9) (MZ.length + 1) (flat fcRL.f (MZ ++ [⟨5, 0, 0⟩])) ∧ Below w.heap.size w w9) := by
            have h1 := hp9.ow
            rw [show (MZ ++ [(⟨5, 0, 0⟩ : Fc)]).length = MZ.length + 1 by simp] at h1
            exact ⟨h1, (HC6.out _ hp9.bl).1⟩
          clear ho9 hg9 hn9 hp9 HBX HT
          go_wp2
          go_ret
          rw [HEB.out]
          refine ⟨ad9, c9, ?_, ?_, HF.out.2⟩
          · rw [show (MZ ++ [(⟨5, 0, 0⟩ : Fc)]).length = MZ.length + 1 by simp]
            rfl
          · rw [show (MZ ++ [(⟨5, 0, 0⟩ : Fc)]).length = MZ.length + 1 by simp]
            exact HF.out.1
        · have HEB : Hid (AL = MZ ++ [⟨6, 0, 0⟩]) := by
            unfold Hid
            rw [HE3.out]
            unfold endFc
            rw [← hag2, hyb]
            rfl
          have hbx := below_alloc1 w10 (.cells #[.int .i64 y.move, .int .i64 y.gain, .bool y.again, .slice xa y.pits.length xc, .slice ya y.stores.length yc, .int .i64 y.player] 144)
          have HO11 := Lib.hid (HO10.out.below hbx)
          obtain ⟨WR, hWR⟩ : ∃ W, W = w10.alloc (.cells #[.int .i64 y.move, .int .i64 y.gain, .bool y.again, .slice xa y.pits.length xc, .slice ya y.stores.length yc, .int .i64 y.player] 144) := ⟨_, rfl⟩
          have xr : WR.cell? ⟨w10.heap.size, 2, none⟩ = some (.bool false) := by rw [hWR, ← hyb]; simp [go_sem]
          rw [← hWR] at HO11
          have HWR := Lib.hid hWR
          have hbB := HO11.out.bB
          have HBX : Hid (BoxP WR.heap.size (Fc.cells ⟨6, 0, 0⟩).toList (WR.alloc (.cells (Fc.cells ⟨6, 0, 0⟩) 95))) := ((Fr.start WR).alloc (Fc.cells ⟨6, 0, 0⟩) 95).at 0 rfl
          have HT := Lib.hid (HO11.out.below (below_alloc1 WR (.cells (Fc.cells ⟨6, 0, 0⟩) 95)))
          clear hWR hag2 hyb hbx
          go_upto_region 12 with fail
          rw [← HWR.out]
          go_wp2_with (at_builtin; refine wpList_append_own2 _ rfl _ _ 36 rfl w.heap.size 95 i0 (.agg #[.int .i64 0, .int .i64 0, .int .i64 0]) 3 24 Try.underlying36 hi hz0 hz1 hz2 rfl (by decide) (.slice (some ⟨g7, 0, none⟩) MZ.length c7) MZ.length (flat fcRL.f MZ) rfl HT.out.ow ⟨WR.heap.size, 0, none⟩ 1 1 (Fc.cells ⟨6, 0, 0⟩).toList rfl rfl (fun j u hu => by rw [addr_addT, Nat.zero_add]; exact HBX.out j u hu) (by intro u hu; simp [Fc.cells] at hu; rcases hu with rfl | rfl | rfl <;> rfl) (by unfold maxLen; omega) (by omega) (by simp; omega) ?_)
          intro ad9 c9 w9 ho9 hg9 hn9
          have hp9 := HO11.out.push (x := ⟨6, 0, 0⟩) hg9 ho9 (fun k hk => by have := hn9 k hk; simpa using this)
          have HF : Hid (w9.ownsRow w.heap.size 95 3 (.slice ad9 (MZ.length + 1) c9) (MZ.length + 1) (flat fcRL.f (MZ ++ [⟨6, 0, 0⟩])) ∧ Below w.heap.size w w9) := by
            have h1 := hp9.ow
            rw [show (MZ ++ [(⟨6, 0, 0⟩ : Fc)]).length = MZ.length + 1 by simp] at h1
            exact ⟨h1, (HC6.out _ hp9.bl).1⟩
          clear ho9 hg9 hn9 hp9 HBX HT
          go_wp2
          go_ret
          rw [HEB.out]
          refine ⟨ad9, c9, ?_, ?_, HF.out.2⟩
          · rw [show (MZ ++ [(⟨6, 0, 0⟩ : Fc)]).length = MZ.length + 1 by simp]
            rfl
          · rw [show (MZ ++ [(⟨6, 0, 0⟩ : Fc)]).length = MZ.length + 1 by simp]
            exact HF.out.1
      · have HSP : Hid (spareF L.pits CAP RAW L.last = []) := if_neg hca
        have HE3 : Hid (AL = M ++ endFc r L) := by unfold Hid; rw [HAL.out, HSP.out, List.append_nil]
        have hcr : ((CAP.length : Int) == 0) = false ∨ (((CAP.length : Int) == 0) = true ∧ ¬ (0 : Int) < (RAW.length : Int)) := by
          by_cases hc0 : CAP = []
          · right
            have hr0 : RAW = [] := by
              by_cases hr : RAW = []
              · exact hr
              · exact absurd ⟨hc0, hr⟩ hca
            rw [hc0, hr0]
            exact ⟨rfl, by simp⟩
          · left
            have : 0 < CAP.length := List.length_pos_iff.2 hc0
            simp
            omega
        clear hca
        rcases hcr with hci0 | ⟨hci0, hrp0⟩
        all_goals
          have hoz := HOT8.out
          have hbz := (HC6.out _ hoz.bl).1
          have HYX := Lib.hid (HYC.out w8 hbz)
          clear hoz hbz
          go_wp2_with fail
          refine HYX.out.mono ?_
          rintro e w10 ⟨xa, xc, ya, yc, rfl, _, hb10⟩
          have HO10 := Lib.hid (HOT8.out.below hb10)
          clear hb10 HYX
          have hag2 := HAG.out
          rcases Bool.eq_false_or_eq_true y.again with hyb | hyb
          · have HEB : Hid (AL = M ++ [⟨5, 0, 0⟩]) := by
              unfold Hid
              rw [HE3.out]
              unfold endFc
              rw [← hag2, hyb]
              rfl
            have hbx := below_alloc1 w10 (.cells #[.int .i64 y.move, .int .i64 y.gain, .bool y.again, .slice xa y.pits.length xc, .slice ya y.stores.length yc, .int .i64 y.player] 144)
            have HO11 := Lib.hid (HO10.out.below hbx)
            obtain ⟨WR, hWR⟩ : ∃ W, W = w10.alloc (.cells #[.int .i64 y.move, .int .i64 y.gain, .bool y.again, .slice xa y.pits.length xc, .slice ya y.stores.length yc, .int .i64 y.player] 144) := ⟨_, rfl⟩
            have xr : WR.cell? ⟨w10.heap.size, 2, none⟩ = some (.bool true) := by rw [hWR, ← hyb]; simp [go_sem]
            rw [← hWR] at HO11
            have HWR := Lib.hid hWR
            have hbB := HO11.out.bB
            have HBX : Hid (BoxP WR.heap.size (Fc.cells ⟨5, 0, 0⟩).toList (WR.alloc (.cells (Fc.cells ⟨5, 0, 0⟩) 95))) := ((Fr.start WR).alloc (Fc.cells ⟨5, 0, 0⟩) 95).at 0 rfl
            have HT := Lib.hid (HO11.out.below (below_alloc1 WR (.cells (Fc.cells ⟨5, 0, 0⟩) 95)))
            clear hWR hag2 hyb hbx
            go_upto_region 12 with fail
            rw [← HWR.out]
            go_wp2_with (at_builtin; refine wpList_append_own2 _ rfl _ _ 36 rfl w.heap.size 95 i0 (.agg #[.int .i64 0, .int .i64 0, .int .i64 0]) 3 24 Try.underlying36 hi hz0 hz1 hz2 rfl (by decide) (.slice fa M.length fc) M.length (flat fcRL.f M) rfl HT.out.ow ⟨WR.heap.size, 0, none⟩ 1 1 (Fc.cells ⟨5, 0, 0⟩).toList rfl rfl (fun j u hu => by rw [addr_addT, Nat.zero_add]; exact HBX.out j u hu) (by intro u hu; simp [Fc.cells] at hu; rcases hu with rfl | rfl | rfl <;> rfl) (by unfold maxLen; omega) (by omega) (by simp; omega) ?_)
            intro ad9 c9 w9 ho9 hg9 hn9
            have hp9 := HO11.out.push (x := ⟨5, 0, 0⟩) hg9 ho9 (fun k hk => by have := hn9 k hk; simpa using this)
            have HF : Hid (w9.ownsRow w.heap.size 95 3 (.slice ad9 (M.length + 1) c9) (M.length + 1) (flat fcRL.f (M ++ [⟨5, 0, 0⟩])) ∧ Below w.heap.size w w9) := by
              have h1 := hp9.ow
              rw [show (M ++ [(⟨5, 0, 0⟩ : Fc)]).length = M.length + 1 by simp] at h1
              exact ⟨h1, (HC6.out _ hp9.bl).1⟩
            clear ho9 hg9 hn9 hp9 HBX HT
            go_wp2
            go_ret
            rw [HEB.out]
            refine ⟨ad9, c9, ?_, ?_, HF.out.2⟩
            · rw [show (M ++ [(⟨5, 0, 0⟩ : Fc)]).length = M.length + 1 by simp]
              rfl
            · rw [show (M ++ [(⟨5, 0, 0⟩ : Fc)]).length = M.length + 1 by simp]
              exact HF.out.1
          · have HEB : Hid (AL = M ++ [⟨6, 0, 0⟩]) := by
              unfold Hid
              rw [HE3.out]
              unfold endFc
              rw [← hag2, hyb]
              rfl
            have hbx := below_alloc1 w10 (.cells #[.int .i64 y.move, .int .i64 y.gain, .bool y.again, .slice xa y.pits.length xc, .slice ya y.stores.length yc, .int .i64 y.player] 144)
            have HO11 := Lib.hid (HO10.out.below hbx)
            obtain ⟨WR, hWR⟩ : ∃ W, W = w10.alloc (.cells #[.int .i64 y.move, .int .i64 y.gain, .bool y.again, .slice xa y.pits.length xc, .slice ya y.stores.length yc, .int .i64 y.player] 144) := ⟨_, rfl⟩
            have xr : WR.cell? ⟨w10.heap.size, 2, none⟩ = some (.bool false) := by rw [hWR, ← hyb]; simp [go_sem]
            rw [← hWR] at HO11
            have HWR := Lib.hid hWR
            have hbB := HO11.out.bB
            have HBX : Hid (BoxP WR.heap.size (Fc.cells ⟨6, 0, 0⟩).toList (WR.alloc (.cells (Fc.cells ⟨6, 0, 0⟩) 95))) := ((Fr.start WR).alloc (Fc.cells ⟨6, 0, 0⟩) 95).at 0 rfl
            have HT := Lib.hid (HO11.out.below (below_alloc1 WR (.cells (Fc.cells ⟨6, 0, 0⟩) 95)))
            clear hWR hag2 hyb hbx
            go_upto_region 12 with fail
            rw [← HWR.out]
            go_wp2_with (at_builtin; refine wpList_append_own2 _ rfl _ _ 36 rfl w.heap.size 95 i0 (.agg #[.int .i64 0, .int .i64 0, .int .i64 0]) 3 24 Try.underlying36 hi hz0 hz1 hz2 rfl (by decide) (.slice fa M.length fc) M.length (flat fcRL.f M) rfl HT.out.ow ⟨WR.heap.size, 0, none⟩ 1 1 (Fc.cells ⟨6, 0, 0⟩).toList rfl rfl (fun j u hu => by rw [addr_addT, Nat.zero_add]; exact HBX.out j u hu) (by intro u hu; simp [Fc.cells] at hu; rcases hu with rfl | rfl | rfl <;> rfl) (by unfold maxLen; omega) (by omega) (by simp; omega) ?_)
            intro ad9 c9 w9 ho9 hg9 hn9
            have hp9 := HO11.out.push (x := ⟨6, 0, 0⟩) hg9 ho9 (fun k hk => by have := hn9 k hk; simpa using this)
            have HF : Hid (w9.ownsRow w.heap.size 95 3 (.slice ad9 (M.length + 1) c9) (M.length + 1) (flat fcRL.f (M ++ [⟨6, 0, 0⟩])) ∧ Below w.heap.size w w9) := by
              have h1 := hp9.ow
              rw [show (M ++ [(⟨6, 0, 0⟩ : Fc)]).length = M.length + 1 by simp] at h1
              exact ⟨h1, (HC6.out _ hp9.bl).1⟩
            clear ho9 hg9 hn9 hp9 HBX HT
            go_wp2
            go_ret
            rw [HEB.out]
            refine ⟨ad9, c9, ?_, ?_, HF.out.2⟩
            · rw [show (M ++ [(⟨6, 0, 0⟩ : Fc)]).length = M.length + 1 by simp]
              rfl
            · rw [show (M ++ [(⟨6, 0, 0⟩ : Fc)]).length = M.length + 1 by simp]
              exact HF.out.1
set_option maxRecDepth 100000 in
set_option maxHeartbeats 8000000 in
theorem sFactsOf_c (r : R) (p : P) (move : Int) (pa sa : Option Addr) (pc sc : Nat) (w : World) (h : PRow w p pa sa) (m1 : p.pits.length ≤ 16777216) (m2 : p.stores.length ≤ 16777216) :
    Calls Try.prog 22 #[r.val, p.val pa pc sa sc, .int .i64 move] w (FcRes2 w (factsP r p move)) := by
  have F0 := ((Fr.start w).alloc r.cells 33).alloc (p.cells pa pc sa sc) 30
  simp only [World.size_alloc] at F0
  have HC := Lib.hid (fun W (H : PRow W p pa sa) => sMoveFault_c r p move pa sa pc sc W H m1 m2)
  obtain ⟨c, hcd⟩ : ∃ c, c = (doneP r p move).code := ⟨_, rfl⟩
  rw [← hcd] at HC
  have HD := Lib.hid hcd
  have HH := Lib.hid h
  clear hcd h
  go_enter Try.func22, Try.ntmps22
  go_wp2_with fail
  refine (HC.out _ (HH.out.below F0.below (Nat.le_refl _))).mono ?_
  rintro e w1 ⟨rfl, hb1⟩
  have F1 := F0.step hb1
  have hra := R.boxc (F1.at 1 rfl)
  obtain ⟨d0, d1, d2⟩ := P.boxc (F1.at 0 rfl)
  have HB1 := Lib.hid F1.below
  clear hb1 F0 HC
  by_cases hz : c = 0
  · have hz' : (c != 0) = false := by simpa using hz
    have hd0 : (doneP r p move).code = 0 := by rw [← HD.out]; exact hz
    obtain ⟨hc0, L, n, hso⟩ := doneP_zero hd0
    obtain ⟨pn, fn, t, hpn, hpn1, hfn, _⟩ := facts_known hc0 hso
    have HE : Hid (factsP r p move = (allF r p fn L, 0)) := by unfold Hid; rw [factsP_ok hd0 hso, hfn]
    have HX := Lib.hid (l11Facts_c w.heap.size 0 (w.heap.size + 1) 0 r p move n fn L pa sa pc sc w1 hra ⟨d0, d1, d2⟩ (HH.out.below HB1.out (Nat.le_refl _)) m1 m2 hd0 hso hfn)
    clear hz hd0 hc0 hso hpn hpn1 hfn hra d0 d1 d2 F1
    go_wp2_with fail
    refine HX.out.mono ?_
    rintro e w2 ⟨a, cc, rfl, ho, hb⟩
    have HF : Hid (Pcs w2 w.heap.size (fcRL.pcs a cc (allF r p fn L)) ∧ Below w.heap.size w w2) := ⟨fc_pcs (ownsRow_le ho HB1.out.size), below_next HB1.out hb⟩
    obtain ⟨AL, hAL⟩ : ∃ x, x = allF r p fn L := ⟨_, rfl⟩
    rw [← hAL] at HF HE ⊢
    clear ho hb hAL HX
    go_wp2
    go_ret2
    rw [HE.out]
    exact ⟨a, cc, rfl, HF.out⟩
  · have hz' : (c != 0) = true := by simpa using hz
    have HE : Hid (factsP r p move = ([], c)) := by unfold Hid; rw [HD.out]; exact factsP_bad (by rw [← HD.out]; exact hz)
    clear hz hra d0 d1 d2 F1
    go_wp2
    go_ret2
    rw [HE.out]
    exact ⟨none, 0, rfl, fc_pcs (World.ownsRow_nil _ _ _ _), HB1.out⟩

end Go.Proofs.Ytbjgigdkbjabaaa
