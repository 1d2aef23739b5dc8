/- FcL: all laps of a move as the reference tells them (printed by gen/fcl.py). The contract holds for every argument, under the premises that it states. -/
import Derived.Test.YtbjgigdkbjabaaaFcS
import Derived.Test.YtbjgigdkbjabaaaSMove
namespace Go.Proofs.Ytbjgigdkbjabaaa
set_option linter.unusedSimpArgs false
set_option linter.unusedVariables false
set_option linter.unnecessarySimpa false
open Go.RowKit Go.ChangeShapes Go.WideShapes Go.ChangeAt Go.Joins

/-- the telling along a path, in memory -/
structure LaSt (B : Nat) (w wr : World) (pg pc : Nat) (s : FsS) (T : List Int) (ta : Option Addr) (tc : Nat) (fa : Option Addr) (fc : Nat) : Prop where
  ow : wr.ownsRow B 95 3 (.slice fa (outF s).length fc) (outF s).length (flat fcRL.f (outF s))
  pi : OwnI wr B (some ⟨pg, 0, none⟩) pc s.pits
  pa : OwnI wr B ta tc T
  d1 : ∀ k, (Value.slice fa (outF s).length fc).ownBlock = some k → ¬ k = pg ∧ ¬ (Value.slice ta T.length tc).ownBlock = some k
  d2 : ¬ (Value.slice ta T.length tc).ownBlock = some pg
  bl : Below B w wr
  bB : B ≤ wr.heap.size
theorem LaSt.below {B pg pc tc fc : Nat} {w wr w' : World} {s : FsS} {T : List Int} {ta fa : Option Addr} (h : LaSt B w wr pg pc s T ta tc fa fc) (hb : Below wr.heap.size wr w') : LaSt B w w' pg pc s T ta tc fa fc :=
  ⟨own_below h.ow hb (Nat.le_refl _), own_below h.pi hb (Nat.le_refl _), own_below h.pa hb (Nat.le_refl _), h.d1, h.d2, h.bl.trans (hb.mono h.bB), Nat.le_trans h.bB hb.size⟩
/-- a pit is written -/
theorem LaSt.pit {B pg pc tc fc : Nat} {w wr : World} {s s' : FsS} {T : List Int} {ta fa : Option Addr} (h : LaSt B w wr pg pc s T ta tc fa fc) (j : Nat) (v : Int) (ho : outF s' = outF s) (hp : s'.pits = s.pits.set j v) : LaSt B w (wr.setCell ⟨pg, j, none⟩ (.int .i64 v)) pg pc s' T ta tc fa fc := by
  have hs := (h.pi.stored j (.int .i64 v)).1
  have hl := own_head h.pi
  refine ⟨?_, ?_, ownsRow_setCell_other h.pa h.d2 _, ?_, h.d2, h.bl.setCell (p := ⟨pg, j, none⟩) hl.1 _, by simpa using h.bB⟩
  · rw [ho]
    exact ownsRow_setCell_other h.ow (fun e => (h.d1 pg e).1 rfl) _
  · rw [hp]
    rw [← List.map_set] at hs
    simpa [OwnI] using hs
  · rw [ho]; exact h.d1
/-- a fact is appended -/
theorem LaSt.push {B pg pc tc fc fc' : Nat} {w wr w2 : World} {s s' : FsS} {T : List Int} {ta fa fa' : Option Addr} {x : Fc} (h : LaSt B w wr pg pc s T ta tc fa fc) (hg : (wr.alloc (.cells x.cells 95)).grownBy w2 (Value.slice fa (outF s).length fc).ownBlock)
    (ho : w2.ownsRow B 95 3 (.slice fa' ((outF s).length + 1) fc') ((outF s).length + 1) (flat fcRL.f (outF s) ++ x.cells.toList)) (hn : ∀ k, (Value.slice fa' ((outF s).length + 1) fc').ownBlock = some k → (Value.slice fa (outF s).length fc).ownBlock = some k ∨ wr.heap.size + 1 ≤ k)
    (he : outF s' = outF s ++ [x]) (hp : s'.pits = s.pits) : LaSt B w w2 pg pc s' T ta tc fa' fc' := by
  have h1 := h.below (below_alloc1 wr (.cells x.cells 95))
  have hl : (outF s').length = (outF s).length + 1 := by rw [he]; simp
  have hpg := own_head h.pi
  refine ⟨?_, ?_, ?_, ?_, h.d2, ?_, Nat.le_trans h1.bB hg.size⟩
  · rw [hl, he, flat_append, flat_one]; exact ho
  · rw [hp]
    exact own_keep h1.pi (fun k hk => by cases hk; exact hg.block pg (by simp; omega) (fun e => (h.d1 pg e.symm).1 rfl))
  · exact own_keep h1.pa (fun k hk => hg.block k (h1.pa.lt k hk).2 (fun e => (h.d1 k e.symm).2 hk))
  · rw [hl]
    intro k hk
    rcases hn k hk with h2 | h2
    · exact h.d1 k h2
    · refine ⟨by omega, fun e => ?_⟩
      have := (h.pa.lt k e).2
      omega
  · exact h1.bl.grown hg h1.bB (fun k hk => (h.ow.lt k hk).1)
/-- the list is told anew -/
theorem LaSt.sown {B pg pc tc fc fc' : Nat} {w wr w2 : World} {s s' : FsS} {T : List Int} {ta fa fa' : Option Addr} {l : List Fc} (h : LaSt B w wr pg pc s T ta tc fa fc)
    (ho : w2.ownsRow B 95 3 (.slice fa' l.length fc') l.length (flat fcRL.f l)) (hb : BelK (fun k => k = pg ∨ (Value.slice ta T.length tc).ownBlock = some k) B wr w2) (ha : ∀ k, (Value.slice fa' l.length fc').ownBlock = some k → ¬ (k = pg ∨ (Value.slice ta T.length tc).ownBlock = some k))
    (he : outF s' = l) (hp : s'.pits = s.pits) : LaSt B w w2 pg pc s' T ta tc fa' fc' := by
  refine ⟨by rw [he]; exact ho, ?_, ?_, ?_, h.d2, h.bl.trans hb.bel, Nat.le_trans h.bB hb.bel.size⟩
  · rw [hp]
    exact own_keep h.pi (fun k hk => by cases hk; exact hb.keep pg (.inl rfl))
  · exact own_keep h.pa (fun k hk => hb.keep k (.inr hk))
  · rw [he]
    exact fun k hk => ⟨fun e => ha k hk (.inl e), fun e => ha k hk (.inr e)⟩
/-- a list of facts of the call's own -/
def FaRes (w : World) (l : List Fc) (e : Ending) (w' : World) : Prop := ∃ (a : Option Addr) (c : Nat), e = .returned (.slice a l.length c) ∧ w'.ownsRow w.heap.size 95 3 (.slice a l.length c) l.length (flat fcRL.f l) ∧ Below w.heap.size w w'
set_option maxRecDepth 100000 in
set_option maxHeartbeats 32000000 in
theorem l11Laps_c (rb ro pb po : Nat) (r : R) (p : P) (move : Int) (fn : Nat) (n : Int) (L : Lap) (pa sa : Option Addr) (pc sc : Nat) (w : World) (hr : R.At w rb ro r) (hp : P.At w pb po p pa pc sa sc) (h : PRow w p pa sa) (m1 : p.pits.length ≤ 16777216) (m2 : p.stores.length ≤ 16777216)
    (hc0 : codeP r p move = 0) (hso : sowP r p.player (p.player * r.pits + move) p.pits p.stores = some (L, n)) (hfn : p.player * r.pits + move = fn) :
    Calls Try.prog 114 #[.pointer (some ⟨rb, ro, none⟩), .pointer (some ⟨pb, po, none⟩), .int .i64 move] w (FaRes w (lapsF r p.player fn p.pits p.stores)) := by
  obtain ⟨i0, hi, hz0, hz1, hz2⟩ := info_partsFc infoFc
  obtain ⟨pn, fn', t, hpn, hpn1, hfn', hfl, hpos, hbd, hB, ht1, hok, hpl, hlen, hrun⟩ := facts_known hc0 hso
  obtain rfl : fn' = fn := by omega
  have hgood := path_good hbd p.player fn' (by omega) p.pits p.stores hB hfl hpos (by rw [hfn'] at hso; exact hso)
  have hplc := path_places hbd p.player fn' (by omega) p.pits p.stores (.inr ⟨by omega, by have := hB.lp; omega⟩) (by rw [hfn'] at hso; exact hso)
  have hn16 : p.pits.length ≤ 16 := by have := hB.lp; have := hbd.hi; omega
  have hlpp := hB.lp
  have hrb : rb < w.heap.size := World.block_lt_of_cell? w _ hr.c0
  have hpb : pb < w.heap.size := World.block_lt_of_cell? w _ hp.c0
  have HMV := Lib.hid (fun W (hW : Below w.heap.size w W) => l05Move_c rb ro pb po r p move pa sa pc sc W (hr.below hW hrb) (hp.below hW hpb) (h.below hW (Nat.le_refl _)) m1 m2)
  have HOW := Lib.hid (fun W (hW : Below w.heap.size w W) => l00Own_c pa pc p.pits W (h.pits.below hW (Nat.le_refl _)) m1)
  have HC : Hid (∀ W, Below w.heap.size w W → W.cell? ⟨rb, ro, none⟩ = some (.int .i64 r.pits) ∧ W.cell? ⟨pb, po, none⟩ = some (.slice pa p.pits.length pc) ∧ W.cell? ⟨pb, po + 2, none⟩ = some (.int .i64 p.player)) := fun W hW =>
    ⟨(hr.below hW hrb).c0, (hp.below hW hpb).c0, (hp.below hW hpb).c2⟩
  have HCC := Lib.hid (⟨hc0, hso⟩ : _ ∧ _)
  have HG := Lib.hid (⟨hgood, hplc, hrun⟩ : _ ∧ _ ∧ _)
  have hm8 : 0 ≤ p.player * r.pits ∧ p.player * r.pits ≤ 8 := by
    have h1 : 0 ≤ p.player * r.pits := Int.mul_nonneg (by omega) (by have := hbd.lo; omega)
    have h2 := Int.mul_le_mul (a := p.player) (b := r.pits) (c := 1) (d := 8) (by omega) hbd.hi (by have := hbd.lo; omega) (by omega)
    omega
  have hw3 : wrap64 (wrap64 (p.player * r.pits) + move) = (fn' : Int) := by
    have e : wrap64 (p.player * r.pits) = p.player * r.pits := by unfold wrap64; omega
    rw [e, hfn']
    unfold wrap64
    omega
  have HPB : Hid (∀ x ∈ p.pits, 0 ≤ x ∧ x ≤ 96) := hB.bp ht1
  have hb1 := below_alloc1 w (.cells #[] 95)
  have HB1 := Lib.hid hb1
  have HO0 : Hid ((w.alloc (.cells #[] 95)).ownsRow w.heap.size 95 3 (.slice (some ⟨w.heap.size, 0, none⟩) 0 0) 0 []) := World.ownsRow_lit (base := w.heap.size) (e := 95) (size := 3) w #[] 0 (Nat.le_refl _) (Nat.zero_le _) rfl
  clear hr hp h hB ht1 hok hlen hrun hgood hplc hfn hfn' hc0 hso hb1 hm8 hpn hpn1
  go_enter Try.func114, Try.ntmps114
  go_wp2_with fail
  refine (HMV.out _ HB1.out).mono ?_
  rintro e w2 hk
  rcases hk with ⟨c, hcz, hcc, _⟩ | ⟨L', n', ua, uc, va, vc, ta, tc, _, hso', rfl, hpo, hta, hb2⟩
  · exfalso
    rcases hcc with rfl | ⟨_, h2, _⟩
    · exact hcz HCC.out.1
    · rw [HCC.out.2] at h2; cases h2
  rw [HCC.out.2] at hso'
  cases hso'
  have hb2' := below_next HB1.out hb2
  have HOW2 := Lib.hid (HOW.out _ (below_next hb2' (below_alloc1 w2 (.cells (snC L.pits L.stores L.last n ua uc va vc) 148))))
  have HB2 := Lib.hid (below_next hb2' (below_alloc1 w2 (.cells (snC L.pits L.stores L.last n ua uc va vc) 148)))
  have HTA2 : Hid (OwnI (w2.alloc (.cells (snC L.pits L.stores L.last n ua uc va vc) 148)) (w.heap.size + 1) ta tc L.path) := by
    have h9 := own_below hta (below_alloc1 w2 (.cells (snC L.pits L.stores L.last n ua uc va vc) 148)) (Nat.le_refl _)
    simp only [World.size_alloc] at h9
    exact h9
  have HO2 : Hid ((w2.alloc (.cells (snC L.pits L.stores L.last n ua uc va vc) 148)).ownsRow w.heap.size 95 3 (.slice (some ⟨w.heap.size, 0, none⟩) 0 0) 0 []) := own_below (own_below HO0.out hb2 (Nat.le_refl _)) (below_alloc1 w2 _) (Nat.le_refl _)
  obtain ⟨cr0, cp0, cp2⟩ := HC.out w2 hb2'
  have zrb : rb < w2.heap.size := Nat.lt_of_lt_of_le hrb hb2'.size
  have zpb : pb < w2.heap.size := Nat.lt_of_lt_of_le hpb hb2'.size
  have zw2 : w.heap.size + 1 ≤ w2.heap.size := by have := hb2.size; simpa using this
  clear hb2 hb2' hpo hta HMV HOW HO0 HB1
  go_wp2_with fail
  refine HOW2.out.mono ?_
  rintro e w3 ⟨ga, gc, rfl, hga, hb3⟩
  have hb3' := below_next HB2.out hb3
  obtain ⟨pg, rfl, hpg1, hpg2⟩ := own_lt_n hga (by omega)
  clear cr0 cp0 cp2
  obtain ⟨cr0, cp0, cp2⟩ := HC.out w3 hb3'
  have HLA : Hid (LaSt w.heap.size w w3 pg gc ⟨[], [], p.pits, (fn' : Int), 0⟩ L.path ta tc (some ⟨w.heap.size, 0, none⟩) 0) := by
    have hta3 := own_below HTA2.out hb3 (Nat.le_refl _)
    simp only [World.size_alloc] at hpg1 hga
    refine ⟨own_below HO2.out hb3 (Nat.le_refl _), ownsRow_le hga (by omega), ownsRow_le hta3 (by omega), fun k hk => ?_, fun e => ?_, hb3', by have := hb3'.size; omega⟩
    · cases hk
      refine ⟨by show ¬ w.heap.size = pg; omega, fun e => ?_⟩
      have h1 := (hta3.lt _ e).1
      dsimp only at h1
      omega
    · have h1 := (HTA2.out.lt _ e).2
      simp only [World.size_alloc] at h1
      omega
  have HIN : Hid (InvS p.pits.length 0 ⟨[], [], p.pits, (fn' : Int), 0⟩) := ⟨rfl, fun x hx => by have := HPB.out x hx; omega, ⟨by dsimp only; omega, by dsimp only; omega⟩, ⟨by dsimp only; omega, by dsimp only; omega⟩, fun f hf => (by cases hf), by simp [outF]⟩
  clear HTA2 HO2 hb3 hb3' hga hpg1 hpg2 HOW2 HB2 zrb zpb zw2
  go_upto_region 4 with fail
  go_region
  have HLA1 := Lib.hid (HLA.out.below (Below.refl w3.heap.size w3).drew)
  have HW3 := Lib.hid hw3
  clear HLA cr0 cp0 cp2 hw3 HC HPB
  go_wp2_with fail
  go_loopw [7, 12, 13, 14, 15] (fun o f lf b i wr => ∃ (k : Nat) (s : FsS) (fa : Option Addr) (fc : Nat), i = .int .i64 (k : Int) ∧ o = .slice fa (outF s).length fc ∧ f = .int .i64 s.fr ∧ lf = .int .i64 s.left ∧ b = .int .i64 (s.pre.length : Int) ∧ k ≤ L.path.length ∧
    Hid (s = (L.path.take k).foldl stepS ⟨[], [], p.pits, (fn' : Int), 0⟩ ∧ InvS p.pits.length k s ∧ LaSt w.heap.size w wr pg gc s L.path ta tc fa fc)) (fun _ _ _ _ i _ => L.path.length - (intOf i).toNat)
  case atStart => exact ⟨0, ⟨[], [], p.pits, (fn' : Int), 0⟩, _, _, rfl, rfl, by rw [HW3.out], rfl, rfl, Nat.zero_le _, Lib.hid ⟨rfl, HIN.out, HLA1.out⟩⟩
  case round =>
    clear HLA1 HIN
    obtain ⟨k, s, fa, fc, rfl, rfl, rfl, rfl, rfl, hk, HST⟩ := hrel
    obtain ⟨T, hT⟩ : ∃ T, T = L.path := ⟨_, rfl⟩
    rw [← hT] at HST HG hk ⊢
    rw [← hT] at hpl
    have HT := Lib.hid hT
    clear hT
    by_cases hlt : k < T.length
    · have hkI : (k : Int) < (T.length : Int) := by omega
      obtain ⟨hse, hinv, hla⟩ := HST.out
      obtain ⟨q, hq⟩ : ∃ q, q = T[k] := ⟨_, rfl⟩
      have hqp := HG.out.2.1 q (by rw [hq]; exact List.getElem_mem hlt)
      have hqb : -1 ≤ q ∧ q < (p.pits.length : Int) := by rcases hqp with h | h <;> omega
      have hoks : okS p.pits.length s := by rw [hse]; exact HG.out.1 k hlt
      have HNS : Hid ((T.take (k + 1)).foldl stepS ⟨[], [], p.pits, (fn' : Int), 0⟩ = stepS s q) := by
        unfold Hid
        rw [List.take_succ_eq_append_getElem hlt, List.foldl_append, ← hse, ← hq]
        rfl
      have HNI : Hid (InvS p.pits.length (k + 1) (stepS s q)) := hinv.step (by omega) hoks hqb
      have hwk : IntKind.i64.wrap ((k : Int) + 1) = (k : Int) + 1 := IntWalk.i64_in _ (by omega)
      obtain ⟨tg, rfl, htg1, htg2⟩ := own_lt_n hla.pa (by omega)
      have HPQ : Hid (∀ W, OwnI W w.heap.size (some ⟨tg, 0, none⟩) tc T → W.cell? ⟨tg, k, none⟩ = some (.int .i64 q)) := fun W hW => by
        rw [hW.cellAt k (by omega), hq]
        simp [hlt]
      have hqc := HPQ.out wr hla.pa
      have hlb := hinv.lb
      by_cases hl0 : s.left = 0
      · have hlb0 : (s.left == 0) = true := by rw [hl0]; rfl
        obtain ⟨hf0, hf1, hf2⟩ := hoks hl0
        obtain ⟨gn, hgn⟩ : ∃ gn : Nat, s.fr = gn := ⟨s.fr.toNat, by omega⟩
        have hgnl : gn < s.pits.length := by have := hinv.pl; omega
        obtain ⟨v, hv⟩ : ∃ v, v = s.pits[gn] := ⟨_, rfl⟩
        have hvb := hinv.pb v (by rw [hv]; exact List.getElem_mem hgnl)
        have hgd : s.pits.getD s.fr.toNat 0 = v := by rw [hgn, hv]; simp [hgnl]
        have hv1 : 1 ≤ v := by rw [hgd] at hf2; omega
        have hgc : wr.cell? ⟨pg, gn, none⟩ = some (.int .i64 v) := by rw [hla.pi.cellAt gn (by simpa using hgnl), hv]; simp [hgnl]
        have hgI : (gn : Int) < (p.pits.length : Int) := by omega
        have hbB := hla.bB
        have hob : (outF s).length ≤ 20000 := by have := hinv.ob; omega
        obtain ⟨N, hN⟩ : ∃ N, N = (outF s).length := ⟨_, rfl⟩
        have HN := Lib.hid hN
        have HBX : Hid (BoxP wr.heap.size (Fc.cells ⟨1, (gn : Int), v⟩).toList (wr.alloc (.cells (Fc.cells ⟨1, (gn : Int), v⟩) 95))) := ((Fr.start wr).alloc (Fc.cells ⟨1, (gn : Int), v⟩) 95).at 0 rfl
        have hoa := (hla.below (below_alloc1 wr (.cells (Fc.cells ⟨1, (gn : Int), v⟩) 95))).ow
        rw [← hN] at hoa hob ⊢
        have HOA := Lib.hid hoa
        have HOP : Hid (openF s = ⟨s.pre ++ s.cur ++ [⟨1, (gn : Int), v⟩], [], s.pits.set gn 0, (gn : Int), v⟩) := by
          unfold Hid openF
          rw [hgd, hgn]
          rfl
        have HEQ : Hid (step1 (openF s) q = stepS s q) := by unfold Hid stepS; rw [if_pos hl0]
        have HIV := Lib.hid hinv
        have HLW := Lib.hid hla
        have hgk : hgn = hgn := rfl
        rw [hgn]
        rw [hl0]
        clear hse hoks hf0 hf1 hf2 hgd hv hinv hla hl0 hlb hq hqp hN hoa hgk hgn hlb0 HST
        go_wp2_with (at_builtin; refine wpList_append_own2 _ rfl _ _ 36 rfl w.heap.size 95 i0 (.agg #[.int .i64 0, .int .i64 0, .int .i64 0]) 3 24 Try.underlying36 hi hz0 hz1 hz2 rfl (by decide) (.slice fa N fc) N (flat fcRL.f (outF s)) rfl HOA.out ⟨wr.heap.size, 0, none⟩ 1 1 (Fc.cells ⟨1, (gn : Int), v⟩).toList rfl rfl (fun j u hu => by rw [addr_addT, Nat.zero_add]; exact HBX.out j u hu) (by intro u hu; simp [Fc.cells] at hu; rcases hu with rfl | rfl | rfl <;> rfl) (by unfold maxLen; omega) (by omega) (by simp; omega) ?_)
        intro ad4 c4 w4 ho4 hg4 hn4
        have HL4 : Hid (LaSt w.heap.size w w4 pg gc ⟨s.pre ++ s.cur ++ [⟨1, (gn : Int), v⟩], [], s.pits, (gn : Int), v⟩ T (some ⟨tg, 0, none⟩) tc ad4 c4) := by
          have hN := HN.out
          rw [hN] at ho4 hg4 hn4
          exact HLW.out.push (x := ⟨1, (gn : Int), v⟩) hg4 ho4 (fun k hk => by have := hn4 k hk; simpa using this) (by simp [outF]) rfl
        have hgc4 : w4.cell? ⟨pg, gn, none⟩ = some (.int .i64 v) := by
          have h1 := HL4.out.pi.cellAt gn (by simpa using hgnl)
          have h2 : s.pits[gn]? = some v := by
            have h3 := HLW.out.pi.cellAt gn (by simpa using hgnl)
            rw [hgc] at h3
            simp [hgnl] at h3 ⊢
            exact h3.symm
          rw [h1]
          simp [h2]
        have hgf4 := HL4.out.pi.frozenAt gn
        have HL5 : Hid (LaSt w.heap.size w (w4.setCell ⟨pg, gn, none⟩ (.int .i64 0)) pg gc (openF s) T (some ⟨tg, 0, none⟩) tc ad4 c4) := by
          rw [HOP.out]
          exact HL4.out.pit gn 0 (by simp [outF]) rfl
        obtain ⟨w5, hw5⟩ : ∃ W, W = w4.setCell ⟨pg, gn, none⟩ (.int .i64 0) := ⟨_, rfl⟩
        rw [← hw5] at HL5
        have HW5 := Lib.hid hw5
        have hpre : (openF s).pre.length = N + 1 := by rw [HOP.out, HN.out]; simp [outF]; omega
        have hcur : (openF s).cur = [] := rfl
        have hlf : (openF s).left = v := by rw [HOP.out]
        have hzl : ((openF s).pre ++ (openF s).cur).length ≤ 100000 := by rw [hcur, List.append_nil, hpre]; omega
        have HCZ : Hid (∀ f ∈ (openF s).cur, 0 ≤ f.count ∧ f.count ≤ 100000) := fun f hf => by rw [hcur] at hf; cases hf
        have HPZ : Hid ((openF s).pits.length = p.pits.length ∧ ∀ x ∈ (openF s).pits, 0 ≤ x ∧ x ≤ 96 + (k : Int)) := by
          rw [HOP.out]
          refine ⟨by rw [List.length_set]; exact HIV.out.pl, fun x hx => ?_⟩
          rcases mem_set' hx with h | h
          · exact HIV.out.pb x h
          · omega
        have hlz2 : 0 ≤ (openF s).left ∧ (openF s).left ≤ 96 + (k : Int) := by rw [hlf]; omega
        obtain ⟨sz, hsz⟩ : ∃ x, x = openF s := ⟨_, rfl⟩
        have hLN : ((openF s).pre ++ (openF s).cur).length = N + 1 := by rw [hcur, List.append_nil, hpre]
        rw [← hsz] at HL5 HEQ HCZ HPZ hpre hlf hzl hlz2 hLN
        have HNN := Lib.hid (⟨hpre, hlf, hLN⟩ : _ ∧ _ ∧ _)
        go_upto_region 15 with fail
        rw [← HW5.out]
        obtain ⟨NZ, hNZ⟩ : ∃ x, x = (sz.pre ++ sz.cur).length := ⟨_, rfl⟩
        obtain ⟨BZ, hBZ⟩ : ∃ x, x = sz.pre.length := ⟨_, rfl⟩
        have HNZ := Lib.hid (And.intro hNZ hBZ)
        rw [show Value.slice ad4 (N + 1) c4 = Value.slice ad4 NZ c4 by rw [hNZ, HNN.out.2.2], show Value.int .i64 v = Value.int .i64 sz.left by rw [HNN.out.2.1], show Value.int .i64 ((N : Int) + 1) = Value.int .i64 (BZ : Int) by rw [hBZ, HNN.out.1]; rfl]
        clear hsz hNZ hBZ hgc hgf4 hgc4 hvb hv1 hgI hgnl hcur hpre hlf hLN hw5 HW5 HOA HBX HN HIV HLW HL4 hbB hob hg4 hn4 ho4
        have hlz := HL5.out
        have hqz := HPQ.out w5 hlz.pa
        have HSO0 := Lib.hid (l11Sow_c (fun k => k = pg ∨ (Value.slice (some ⟨tg, 0, none⟩) T.length tc).ownBlock = some k) w.heap.size sz.pre sz.cur q ad4 c4 w5 hlz.ow (fun f hf => by have := HCZ.out f hf; omega) hzl hlz.bB (fun k hk => by rcases hk with rfl | hk; exact (own_head hlz.pi).2; exact (hlz.pa.lt k hk).2) (fun k hk e => by rcases e with e | e; exact (hlz.d1 k hk).1 e; exact (hlz.d1 k hk).2 e))
        have HSO := Lib.hid (show Calls Try.prog 152 #[.slice ad4 NZ c4, .int .i64 (BZ : Int), .int .i64 q] w5 (SoRes (fun k => k = pg ∨ (Value.slice (some ⟨tg, 0, none⟩) T.length tc).ownBlock = some k) w.heap.size (sz.pre ++ sowF q sz.cur) w5) by rw [HNZ.out.1, HNZ.out.2]; exact HSO0.out)
        have hqlo : -1 ≤ q := hqb.1
        clear hlz hqc HSO0
        go_wp2_with fail
        refine HSO.out.mono ?_
        rintro e w6 ⟨fa6, fc6, rfl, ho6, bk6, ak6⟩
        have hlen6 : (outF (stepS s q)).length = (sz.pre ++ sowF q sz.cur).length := by rw [← HEQ.out]; rfl
        have hla6 := HL5.out.sown (s' := ⟨sz.pre, sowF q sz.cur, sz.pits, q, sz.left - 1⟩) ho6 bk6 ak6 rfl rfl
        have HL6 := Lib.hid hla6
        have hq6 := HPQ.out w6 hla6.pa
        have hprl : (stepS s q).pre.length = sz.pre.length := by rw [← HEQ.out]; rfl
        have hfrl : (stepS s q).fr = q := by rw [← HEQ.out]; rfl
        have hlel : (stepS s q).left = sz.left - 1 := by rw [← HEQ.out]; rfl
        have HWL : Hid (wrap64 (sz.left - 1) = sz.left - 1) := by unfold Hid wrap64; omega
        have HSL := Lib.hid (⟨hlen6, hprl, hfrl, hlel⟩ : _ ∧ _ ∧ _ ∧ _)
        obtain ⟨N6, hN6⟩ : ∃ N, N = (sz.pre ++ sowF q sz.cur).length := ⟨_, rfl⟩
        rw [← hN6]
        have HN6 := Lib.hid hN6
        clear ho6 bk6 ak6 HSO hlen6 hprl hfrl hlel hN6
        by_cases hq0 : 0 ≤ q
        · obtain ⟨qn, rfl⟩ : ∃ qn : Nat, q = qn := ⟨q.toNat, by omega⟩
          have hqn : qn < sz.pits.length := by rw [HPZ.out.1]; omega
          obtain ⟨v, hv⟩ : ∃ v, v = sz.pits[qn] := ⟨_, rfl⟩
          have hgc : w6.cell? ⟨pg, qn, none⟩ = some (.int .i64 v) := by rw [hla6.pi.cellAt qn (by simpa using hqn), hv]; simp [hqn]
          have hgf := hla6.pi.frozenAt qn
          have hgl : (qn : Int) < (p.pits.length : Int) := hqb.2
          have hqpl : sz.pits.length = p.pits.length := HPZ.out.1
          have hvb := HPZ.out.2 v (by rw [hv]; exact List.getElem_mem hqn)
          have hwv : IntKind.i64.wrap (v + 1) = v + 1 := IntWalk.i64_in _ (by omega)
          have hnpt : ¬ tg = pg := fun e => HL6.out.d2 (by rw [e]; rfl)
          have HL7 : Hid (LaSt w.heap.size w (w6.setCell ⟨pg, qn, none⟩ (.int .i64 (v + 1))) pg gc (stepS s (qn : Int)) T (some ⟨tg, 0, none⟩) tc fa6 fc6) := by
            refine HL6.out.pit qn (v + 1) (by rw [← HEQ.out]; rfl) ?_
            rw [← HEQ.out]
            unfold step1
            dsimp only
            rw [if_pos hq0, bump_eq hqn, hv]
          have hq7 : (w6.setCell ⟨pg, qn, none⟩ (.int .i64 (v + 1))).cell? ⟨tg, k, none⟩ = some (.int .i64 (qn : Int)) := (cell_other hnpt).trans hq6
          clear hla6 hv hvb hqn HPZ hqpl
          go_wp2
          go_roundw
          case rel => exact ⟨k + 1, stepS s (qn : Int), fa6, fc6, by go_num, by rw [HSL.out.1, ← HN6.out], by rw [HSL.out.2.2.1], by rw [HSL.out.2.2.2], by rw [HSL.out.2.1, ← HNZ.out.2], by omega, by rw [HNS.out]; exact Lib.hid ⟨rfl, HNI.out, HL7.out⟩⟩
          case measure => simp [intOf]; omega
        · have hqe : q = -1 := by omega
          have HL7 : Hid (LaSt w.heap.size w w6 pg gc (stepS s q) T (some ⟨tg, 0, none⟩) tc fa6 fc6) := by
            have e : stepS s q = ⟨sz.pre, sowF q sz.cur, sz.pits, q, sz.left - 1⟩ := by
              rw [← HEQ.out]
              unfold step1
              rw [if_neg hq0]
            rw [e]
            exact HL6.out
          have hq0' : ¬ (0 : Int) ≤ q := hq0
          clear hla6 HPZ hqe
          go_wp2
          go_roundw
          case rel => exact ⟨k + 1, stepS s q, fa6, fc6, by go_num, by rw [HSL.out.1, ← HN6.out], by rw [HSL.out.2.2.1], by rw [HSL.out.2.2.2], by rw [HSL.out.2.1, ← HNZ.out.2], by omega, by rw [HNS.out]; exact Lib.hid ⟨rfl, HNI.out, HL7.out⟩⟩
          case measure => simp [intOf]; omega
      · have hlb0 : (s.left == 0) = false := by simpa using hl0
        have HEQ : Hid (step1 s q = stepS s q) := by unfold Hid stepS; rw [if_neg hl0]
        have HLA5 := Lib.hid hla
        have hob : (outF s).length ≤ 20000 := by have := hinv.ob; omega
        have hzl : (s.pre ++ s.cur).length ≤ 100000 := by have : (s.pre ++ s.cur).length = (outF s).length := rfl; omega
        have HCZ : Hid (∀ f ∈ s.cur, 0 ≤ f.count ∧ f.count ≤ 100000) := fun f hf => by have := (hinv.cb f hf).2.2; omega
        have HPZ : Hid (s.pits.length = p.pits.length ∧ ∀ x ∈ s.pits, 0 ≤ x ∧ x ≤ 96 + (k : Int)) := ⟨hinv.pl, hinv.pb⟩
        obtain ⟨NZ, hNZ⟩ : ∃ x, x = (s.pre ++ s.cur).length := ⟨_, rfl⟩
        obtain ⟨BZ, hBZ⟩ : ∃ x, x = s.pre.length := ⟨_, rfl⟩
        have HNZ := Lib.hid (And.intro hNZ hBZ)
        rw [show Value.slice fa (outF s).length fc = Value.slice fa NZ fc by rw [hNZ]; rfl, ← hBZ]
        clear hNZ hBZ hse hoks hinv hla hl0 hq hqp hob HST
        have hlz := HLA5.out
        have hqz := HPQ.out wr hlz.pa
        have HSO0 := Lib.hid (l11Sow_c (fun k => k = pg ∨ (Value.slice (some ⟨tg, 0, none⟩) T.length tc).ownBlock = some k) w.heap.size s.pre s.cur q fa fc wr hlz.ow (fun f hf => by have := HCZ.out f hf; omega) hzl hlz.bB (fun k hk => by rcases hk with rfl | hk; exact (own_head hlz.pi).2; exact (hlz.pa.lt k hk).2) (fun k hk e => by rcases e with e | e; exact (hlz.d1 k hk).1 e; exact (hlz.d1 k hk).2 e))
        have HSO := Lib.hid (show Calls Try.prog 152 #[.slice fa NZ fc, .int .i64 (BZ : Int), .int .i64 q] wr (SoRes (fun k => k = pg ∨ (Value.slice (some ⟨tg, 0, none⟩) T.length tc).ownBlock = some k) w.heap.size (s.pre ++ sowF q s.cur) wr) by rw [HNZ.out.1, HNZ.out.2]; exact HSO0.out)
        have hqlo : -1 ≤ q := hqb.1
        clear hlz hqc HSO0
        go_wp2_with fail
        refine HSO.out.mono ?_
        rintro e w6 ⟨fa6, fc6, rfl, ho6, bk6, ak6⟩
        have hlen6 : (outF (stepS s q)).length = (s.pre ++ sowF q s.cur).length := by rw [← HEQ.out]; rfl
        have hla6 := HLA5.out.sown (s' := ⟨s.pre, sowF q s.cur, s.pits, q, s.left - 1⟩) ho6 bk6 ak6 rfl rfl
        have HL6 := Lib.hid hla6
        have hq6 := HPQ.out w6 hla6.pa
        have hprl : (stepS s q).pre.length = s.pre.length := by rw [← HEQ.out]; rfl
        have hfrl : (stepS s q).fr = q := by rw [← HEQ.out]; rfl
        have hlel : (stepS s q).left = s.left - 1 := by rw [← HEQ.out]; rfl
        have HWL : Hid (wrap64 (s.left - 1) = s.left - 1) := by unfold Hid wrap64; omega
        have HSL := Lib.hid (⟨hlen6, hprl, hfrl, hlel⟩ : _ ∧ _ ∧ _ ∧ _)
        obtain ⟨N6, hN6⟩ : ∃ N, N = (s.pre ++ sowF q s.cur).length := ⟨_, rfl⟩
        rw [← hN6]
        have HN6 := Lib.hid hN6
        clear ho6 bk6 ak6 HSO hlen6 hprl hfrl hlel hN6
        by_cases hq0 : 0 ≤ q
        · obtain ⟨qn, rfl⟩ : ∃ qn : Nat, q = qn := ⟨q.toNat, by omega⟩
          have hqn : qn < s.pits.length := by rw [HPZ.out.1]; omega
          obtain ⟨v, hv⟩ : ∃ v, v = s.pits[qn] := ⟨_, rfl⟩
          have hgc : w6.cell? ⟨pg, qn, none⟩ = some (.int .i64 v) := by rw [hla6.pi.cellAt qn (by simpa using hqn), hv]; simp [hqn]
          have hgf := hla6.pi.frozenAt qn
          have hgl : (qn : Int) < (p.pits.length : Int) := hqb.2
          have hqpl : s.pits.length = p.pits.length := HPZ.out.1
          have hvb := HPZ.out.2 v (by rw [hv]; exact List.getElem_mem hqn)
          have hwv : IntKind.i64.wrap (v + 1) = v + 1 := IntWalk.i64_in _ (by omega)
          have hnpt : ¬ tg = pg := fun e => HL6.out.d2 (by rw [e]; rfl)
          have HL7 : Hid (LaSt w.heap.size w (w6.setCell ⟨pg, qn, none⟩ (.int .i64 (v + 1))) pg gc (stepS s (qn : Int)) T (some ⟨tg, 0, none⟩) tc fa6 fc6) := by
            refine HL6.out.pit qn (v + 1) (by rw [← HEQ.out]; rfl) ?_
            rw [← HEQ.out]
            unfold step1
            dsimp only
            rw [if_pos hq0, bump_eq hqn, hv]
          have hq7 : (w6.setCell ⟨pg, qn, none⟩ (.int .i64 (v + 1))).cell? ⟨tg, k, none⟩ = some (.int .i64 (qn : Int)) := (cell_other hnpt).trans hq6
          clear hla6 hv hvb hqn HPZ hqpl
          go_wp2
          go_roundw
          case rel => exact ⟨k + 1, stepS s (qn : Int), fa6, fc6, by go_num, by rw [HSL.out.1, ← HN6.out], by rw [HSL.out.2.2.1], by rw [HSL.out.2.2.2], by rw [HSL.out.2.1, ← HNZ.out.2], by omega, by rw [HNS.out]; exact Lib.hid ⟨rfl, HNI.out, HL7.out⟩⟩
          case measure => simp [intOf]; omega
        · have hqe : q = -1 := by omega
          have HL7 : Hid (LaSt w.heap.size w w6 pg gc (stepS s q) T (some ⟨tg, 0, none⟩) tc fa6 fc6) := by
            have e : stepS s q = ⟨s.pre, sowF q s.cur, s.pits, q, s.left - 1⟩ := by
              rw [← HEQ.out]
              unfold step1
              rw [if_neg hq0]
            rw [e]
            exact HL6.out
          have hq0' : ¬ (0 : Int) ≤ q := hq0
          clear hla6 HPZ hqe
          go_wp2
          go_roundw
          case rel => exact ⟨k + 1, stepS s q, fa6, fc6, by go_num, by rw [HSL.out.1, ← HN6.out], by rw [HSL.out.2.2.1], by rw [HSL.out.2.2.2], by rw [HSL.out.2.1, ← HNZ.out.2], by omega, by rw [HNS.out]; exact Lib.hid ⟨rfl, HNI.out, HL7.out⟩⟩
          case measure => simp [intOf]; omega
    · have hke : k = T.length := by omega
      have hkI : ¬ (k : Int) < (T.length : Int) := by omega
      have HF : Hid (outF s = lapsF r p.player fn' p.pits p.stores) := by
        unfold Hid
        rw [← HG.out.2.2, HST.out.1, hke, List.take_length]
      have HLF := Lib.hid HST.out.2.2
      obtain ⟨l, hl⟩ : ∃ l, l = outF s := ⟨_, rfl⟩
      have HFI : Hid (wr.ownsRow w.heap.size 95 3 (.slice fa l.length fc) l.length (flat fcRL.f l) ∧ Below w.heap.size w wr) := by rw [hl]; exact ⟨HLF.out.ow, HLF.out.bl⟩
      rw [← hl] at HF ⊢
      have HFF := Lib.hid HF.out
      clear hl hke hlt hk HST HLF HG HF
      go_wp2
      go_ret
      rw [← HFF.out]
      exact ⟨fa, fc, rfl, HFI.out.1, HFI.out.2⟩

end Go.Proofs.Ytbjgigdkbjabaaa
