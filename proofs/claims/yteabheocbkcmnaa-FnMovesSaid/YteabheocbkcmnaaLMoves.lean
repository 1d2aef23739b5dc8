/- The law FnMoves returns true for every argument, and every argument reads afterwards as before. No conditions. -/
import Derived.Test.YteabheocbkcmnaaMoves
import Derived.Test.YteabheocbkcmnaaDraw1
namespace Go.Proofs.Yteabheocbkcmnaa.lMoves
set_option linter.unusedSimpArgs false
set_option linter.unusedVariables false
set_option linter.unnecessarySimpa false
open Go.RowKit Go.ChangeShapes Go.WideShapes Go.ChangeAt Go.Joins
open Go.ChangeMaps (open_string)

/-- a round over the moves of a board -/
def MvR (r : R) (p : P) (K : Nat) (w5 : World) (a i : Value) (wr : World) : Prop := ∃ (k n : Nat), i = .int .i64 k ∧ a = .int .i64 n ∧ k ≤ K ∧ n = (allGo r p k).length ∧ Below w5.heap.size w5 wr
set_option maxRecDepth 100000 in
set_option maxHeartbeats 16000000 in
theorem walk (ca : Option Addr) (cc : Nat) (bs : List Int) (w : World) (hm1 : bs.length ≤ maxLen) (hb : bs.length ≤ 3000 → ByteP w.heap.size ca bs w) :
    Calls Try.prog 12 #[.slice ca bs.length cc] w fun e w' => e = .returned (.bool true) ∧ Below w.heap.size w w' := by
  by_cases hl : 3000 < (bs.length : Int)
  · have HL : (decide (3000 < (bs.length : Int)) || decide (3000 < ((0 : Nat) : Int))) = true := by simpa using hl
    clear hb hl
    go_enter Try.func12, Try.ntmps12
    go_wp2_with fail
    refine (a2Long_c ca none _ 0 cc 0 _ hm1 (by simp)).mono ?_
    rintro e w1 ⟨rfl, rfl⟩
    rw [HL]
    go_wp2
    go_ret
    exact ⟨rfl, Below.refl _ _⟩
  have HB := Lib.hid (hb (by omega))
  have HL : (decide (3000 < (bs.length : Int)) || decide (3000 < ((0 : Nat) : Int))) = false := by simp; omega
  clear hb hl
  go_enter Try.func12, Try.ntmps12
  go_wp2_with fail
  refine (a2Long_c ca none _ 0 cc 0 _ hm1 (by simp)).mono ?_
  rintro e w1 ⟨rfl, rfl⟩
  rw [HL]
  clear hm1 HL
  go_wp2_with fail
  refine (A2Position_c ca cc bs _ HB.out).mono ?_
  rintro e w2 ⟨r, p, A, rfl, hdr, hdp, ho2, hb2⟩
  have hok := hdp.ok hdr
  obtain ⟨hlo, hhi⟩ := R.ok_bd hdr.1
  obtain ⟨lp, ls⟩ := P.ok_lens hok
  obtain ⟨hc, hcm⟩ := own_caps ho2.pits
  have F2 := ((Fr.start w2).alloc r.cells 24).alloc (p.cells A.pa A.pc A.sa A.sc) 27
  have B2 : Hid (Below w.heap.size w ((w2.alloc (.cells r.cells 24)).alloc (.cells (p.cells A.pa A.pc A.sa A.sc) 27))) := below_next hb2 F2.below
  have HOK := Lib.hid hok
  have HP : Hid (∀ W, Below w2.heap.size w2 W → PRow W p A.pa A.sa) := fun W hW => ho2.row.below hW (Nat.le_refl _)
  clear hok hb2 ho2 HB hdr hdp
  go_wp2_with fail
  refine (iLegalMoves_c r p A.pa A.sa A.pc A.sc _ (HP.out _ F2.below) (by omega) (by omega) hc hcm).mono ?_
  rintro e w3 ⟨ma, mc, rfl, ho3, hb3⟩
  have F3 := F2.step hb3
  have B3 := Lib.hid (below_next B2.out hb3)
  obtain ⟨ms, hms⟩ : ∃ ms, ms = (allP r p).map Mk.move := ⟨_, rfl⟩
  have hL : legalP r p = (ms, 0) := by unfold legalP; rw [if_pos HOK.out, hms]
  rw [hL] at ho3 ⊢
  dsimp only at ho3
  obtain ⟨c0, c1, c2, c3, c4, c5, c6, c7, c8⟩ := R.boxc (F3.at 1 rfl)
  obtain ⟨d0, d1, d2⟩ := P.boxc (F3.at 0 rfl)
  simp only [World.size_alloc] at d0 d1 d2
  have HM3 := Lib.hid (own_row ho3)
  have HMS := Lib.hid hms
  clear hb3 hL ho3 F2 B2 hms
  go_wp2_with fail
  refine (iResultsOf_c r p HOK.out A.pa A.sa A.pc A.sc _ (HP.out _ F3.below) (by omega) (by omega) hc hcm).mono ?_
  rintro e w4 ⟨l, ad, c, hl, rfl, ho4, hb4⟩
  have F4 := F3.step hb4
  have B4 := Lib.hid (below_next B3.out hb4)
  have HM4 := Lib.hid (Row.below HM3.out hb4 (Nat.le_refl _))
  have hlen : ms.length = l.length := by rw [HMS.out, ← hl]; simp
  obtain ⟨N, hN⟩ : ∃ N, N = l.length := ⟨_, rfl⟩
  rw [← hN]
  rw [hlen, ← hN]
  have hN8 : N ≤ 8 := by have := allP_len8 HOK.out; rw [hN]; have h2 := congrArg List.length hl; simp at h2; omega
  obtain ⟨g, HBX, hg1, hg2⟩ := mks_box ho4 (by have := hb4.size; omega)
  have HLL := Lib.hid hl
  have HNN := Lib.hid hN
  have HG2 := Lib.hid hg2
  have HML := Lib.hid hlen
  have HO4 := Lib.hid ho4
  obtain ⟨c0, c1, c2, c3, c4, c5, c6, c7, c8⟩ := R.boxc (F4.at 1 rfl)
  obtain ⟨d0, d1, d2⟩ := P.boxc (F4.at 0 rfl)
  simp only [World.size_alloc] at d0 d1 d2
  obtain ⟨bc, hbc⟩ : ∃ bc, bc = canP r p := ⟨_, rfl⟩
  have HC := Lib.hid (iCanMove_c r p A.pa A.sa A.pc A.sc w4 (HP.out _ F4.below) (by omega) (by omega) hc hcm)
  rw [← hbc] at HC
  have hbd : bc = decide (0 < (N : Int)) := by
    rw [hbc, canP, HOK.out, Bool.true_and, ← hl, List.length_map, ← hN]
    simp
  clear hb4 hlen hl hN hg2 ho4 B3 F3 HM3 hbc
  subst hbd
  go_wp2_with fail
  refine HC.out.mono ?_
  rintro e w5 ⟨rfl, hb5⟩
  have B5 := Lib.hid (below_next B4.out hb5)
  have F5 := F4.step hb5
  have FR := Lib.hid (F5.at 1 rfl)
  have FP := F5.at 0 rfl
  simp only [World.size_alloc] at FP
  have FP := Lib.hid FP
  have HP5 := Lib.hid (HP.out _ F5.below)
  have HM5 := Lib.hid (Row.below HM4.out hb5 (Nat.le_refl _))
  have HO5 := Lib.hid (HO4.out.below hb5 (Nat.le_refl _))
  have HX5 : Hid (BoxP g (mcells l) w5) := BoxP.below HBX hb5
  have zA : w2.heap.size + 1 < w5.heap.size := by have := F5.le 0 rfl; simp only [World.size_alloc] at this; omega
  obtain ⟨K, hK⟩ : ∃ K : Nat, r.pits = K := ⟨r.pits.toNat, by omega⟩
  have HK := Lib.hid hK
  have hK8 : K ≤ 8 := by omega
  have HPC := Lib.hid (⟨hc, hcm⟩ : _ ∧ _)
  clear hb5 HC c0 c1 c2 c3 c4 c5 c6 c7 c8 d0 d1 d2 hK HM4 HO4 HBX F5 F4 B4 HP hg1
  go_wp2_with fail
  go_loopw [9, 10] (fun a i wr => MvR r p K w5 a i wr) (fun _ i _ => K - (intOf i).toNat)
  case atStart => exact ⟨0, 0, rfl, rfl, Nat.zero_le _, rfl, Below.refl _ _⟩
  case round =>
    obtain ⟨k, n, rfl, rfl, hkK, hnk, hbr⟩ := hrel
    have BR := Lib.hid hbr
    have HNK := Lib.hid hnk
    have zr : w5.heap.size ≤ wr.heap.size := hbr.size
    obtain ⟨bh, _⟩ := bcell hbr
    obtain ⟨c0, c1, c2, c3, c4, c5, c6, c7, c8⟩ := R.boxc (w := wr) (b := w2.heap.size) (r := r) (fun j u hu => (bh _ _ (by omega)).trans (FR.out j u hu))
    obtain ⟨d0, d1, d2⟩ := P.boxc (w := wr) (b := w2.heap.size + 1) (fun j u hu => (bh _ _ (by omega)).trans (FP.out j u hu))
    clear hbr hnk bh
    by_cases hk : k < K
    case neg =>
      have hkk : k = K := by omega
      have hnN : n = N := by rw [HNK.out, HNN.out, ← List.length_map (f := Prod.fst), HLL.out, hkk]; unfold allP; rw [HK.out]; simp
      have hkI : ¬ (k : Int) < r.pits := by have := HK.out; omega
      clear hkk
      go_wp2_with fail
      go_ret
      exact ⟨by simp, below_next B5.out BR.out⟩
    have hkI : (k : Int) < r.pits := by have := HK.out; omega
    obtain ⟨cd, hcd⟩ : ∃ cd, cd = (makeP r p (k : Int)).code := ⟨_, rfl⟩
    have HMF := Lib.hid (iMoveFault_c r p (k : Int) A.pa A.sa A.pc A.sc wr (HP5.out.below BR.out (Nat.le_refl _)) (by omega) (by omega) HPC.out.1 HPC.out.2)
    rw [← makeP_code, ← hcd] at HMF
    have HCD := Lib.hid hcd
    clear hcd
    go_wp2_with fail
    refine HMF.out.mono ?_
    rintro e w5' ⟨rfl, hb5'⟩
    have B5' := Lib.hid (below_next BR.out hb5')
    have zr' : w5.heap.size ≤ w5'.heap.size := Nat.le_trans zr hb5'.size
    obtain ⟨bh, _⟩ := bcell B5'.out
    obtain ⟨c0, c1, c2, c3, c4, c5, c6, c7, c8⟩ := R.boxc (w := w5') (b := w2.heap.size) (r := r) (fun j u hu => (bh _ _ (by omega)).trans (FR.out j u hu))
    obtain ⟨d0, d1, d2⟩ := P.boxc (w := w5') (b := w2.heap.size + 1) (fun j u hu => (bh _ _ (by omega)).trans (FP.out j u hu))
    obtain ⟨z, hz⟩ : ∃ z, z = makeP r p (k : Int) := ⟨_, rfl⟩
    have HMM := Lib.hid (iMakeMove_c r p (k : Int) A.pa A.sa A.pc A.sc w5' (HP5.out.below B5'.out (Nat.le_refl _)) (by omega) (by omega) HPC.out.1 HPC.out.2)
    unfold mkmvP at HMM
    rw [← hz] at HMM
    have HCZ : Hid (cd = z.code) := by unfold Hid; rw [HCD.out, hz]
    have HZ := Lib.hid hz
    clear hz hb5' HMF bh HCD
    go_wp2_with fail
    refine HMM.out.mono ?_
    rintro e w6 ⟨AN, rfl, ho6, hb6⟩
    obtain ⟨xa, xc, za, zc⟩ := AN
    have B6 := Lib.hid (below_next B5'.out hb6)
    have HO6 := Lib.hid ho6
    have z6 : w5.heap.size ≤ w6.heap.size := Nat.le_trans zr' hb6.size
    clear hb6 HMM c0 c1 c2 c3 c4 c5 c6 c7 c8 d0 d1 d2 ho6
    rw [← HCZ.out]
    by_cases hc0 : cd = 0
    case neg =>
      have hc0' : (cd != 0) = true := by simpa using hc0
      have HN2 : Hid (n = (allGo r p (k + 1)).length) := by unfold Hid; rw [HNK.out, allGo_bad (by rw [← HZ.out, ← HCZ.out]; exact hc0)]
      clear hc0
      go_wp2_with fail
      go_roundw
      (case rel =>
        have hR : MvR r p K w5 (.int .i64 (n : Int)) (.int .i64 ((k : Int) + 1)) (w6.alloc (.cells #[.slice xa z.pits.length xc, .slice za z.stores.length zc, .int .i64 z.player] 27)) := ⟨k + 1, n, by go_num, rfl, by omega, HN2.out, B6.out.alloc z6 _⟩
        first
        | exact hR
        | ((repeat apply Exists.intro); exact ⟨hR, rfl⟩)
        | ((repeat apply Exists.intro); refine ⟨hR, ?_⟩; (repeat' apply And.intro) <;> rfl))
      (case measure => (simp [intOf]; omega))
    subst hc0
    have hcz : z.code = 0 := HCZ.out.symm
    have HN2 : Hid (n + 1 = (allGo r p (k + 1)).length) := by unfold Hid; rw [HNK.out, allGo_ok (by rw [← HZ.out]; exact hcz)]; simp
    obtain ⟨f1, f2, f3, f4, f5, ⟨f6, f6'⟩, f7, f8⟩ := makeP_facts (r := r) (p := p) (m := (k : Int)) (by rw [← HZ.out]; exact hcz)
    rw [← HZ.out] at f1 f2 f3 f4 f7
    have hval : (⟨z.pits, z.stores, z.player⟩ : P).ok r = true := by
      have := makeP_valid (r := r) (p := p) (m := (k : Int)) (by rw [← HZ.out]; exact hcz)
      rw [← HZ.out] at this
      exact this
    have hget : (allP r p)[n]? = some z := by rw [HNK.out, HZ.out]; exact allP_at (by have := HK.out; omega) (by rw [← HZ.out]; exact hcz)
    have hnN : n < N := by rw [HNN.out, ← List.length_map (f := Prod.fst), HLL.out]; exact (List.getElem?_eq_some_iff.1 hget).1
    obtain ⟨xm, hxm⟩ : ∃ xm, l[n]? = some (z, xm) := by
      rw [← HLL.out, List.getElem?_map] at hget
      cases hx : l[n]? with
      | none => rw [hx] at hget; cases hget
      | some x => rw [hx] at hget; cases hget; exact ⟨x.2, rfl⟩
    have hgain : 0 ≤ z.gain ∧ z.gain ≤ 2000 := by
      have := makeP_gain (r := r) (q := p) (m := (k : Int)) (by rw [← HZ.out]; exact hcz)
      rw [← HZ.out] at this; exact ⟨this.1, this.2.1⟩
    obtain ⟨mb, mo, hma, hmb, hmcs⟩ := Ints.open HM5.out (by rw [HML.out, ← HNN.out]; omega)
    have hms : w5.cell? ⟨mb, mo + n, none⟩ = some (.int .i64 (k : Int)) := by
      have h1 : n < ms.length := by rw [HML.out, ← HNN.out]; exact hnN
      rw [hmcs n h1]
      have h2 : ms[n]? = some z.move := by rw [HMS.out, List.getElem?_map, hget]; rfl
      have h3 : ms[n] = (k : Int) := by rw [List.getElem?_eq_getElem h1] at h2; exact (Option.some.inj h2).trans f1
      rw [h3]
    obtain ⟨y0, y1, y2, y3, y4, y5⟩ := box_cells HX5.out hxm
    dsimp only at y0 y1 y2 y3 y4 y5
    rw [f1] at y0
    have hgl : g < w5.heap.size := World.block_lt_of_cell? _ _ y0
    have hga : ad = some ⟨g, 0, none⟩ := HG2.out (by rw [← HNN.out]; omega)
    have HIT := Lib.hid ((HO5.out.items _ (List.mem_of_getElem? hxm)).1.row)
    have A7 := Bx.alloc w6 #[.slice xa z.pits.length xc, .slice za z.stores.length zc, .int .i64 z.player] 27 rfl
    have B7 : Below w5.heap.size w5 (w6.alloc (.cells #[.slice xa z.pits.length xc, .slice za z.stores.length zc, .int .i64 z.player] 27)) := B6.out.alloc z6 _
    have HR7 := Lib.hid (HO6.out.row.below (below_alloc1 w6 (.cells #[.slice xa z.pits.length xc, .slice za z.stores.length zc, .int .i64 z.player] 27)) (Nat.le_refl _))
    have hb7 : w6.heap.size < (w6.alloc (.cells #[.slice xa z.pits.length xc, .slice za z.stores.length zc, .int .i64 z.player] 27)).heap.size := by simp
    have HS : Hid (∀ W, Below (w6.alloc (.cells #[.slice xa z.pits.length xc, .slice za z.stores.length zc, .int .i64 z.player] 27)).heap.size (w6.alloc (.cells #[.slice xa z.pits.length xc, .slice za z.stores.length zc, .int .i64 z.player] 27)) W → (W.cell? ⟨w2.heap.size, 0, none⟩ = some (.int .i64 r.pits) ∧ W.cell? ⟨w2.heap.size, 1, none⟩ = some (.int .i64 r.seeds) ∧ W.cell? ⟨w2.heap.size, 2, none⟩ = some (.bool r.stores) ∧ W.cell? ⟨w2.heap.size, 3, none⟩ = some (.bool r.skip) ∧ W.cell? ⟨w2.heap.size, 4, none⟩ = some (.bool r.relay) ∧ W.cell? ⟨w2.heap.size, 5, none⟩ = some (.bool r.feed) ∧ W.cell? ⟨w2.heap.size, 6, none⟩ = some (.bool r.again) ∧ W.cell? ⟨w2.heap.size, 7, none⟩ = some (.int .i64 r.capture) ∧ W.cell? ⟨w2.heap.size, 8, none⟩ = some (.int .i64 r.slam) ∧ W.cell? ⟨w2.heap.size + 1, 0, none⟩ = some (.slice A.pa p.pits.length A.pc) ∧ W.cell? ⟨w2.heap.size + 1, 1, none⟩ = some (.slice A.sa p.stores.length A.sc) ∧ W.cell? ⟨w2.heap.size + 1, 2, none⟩ = some (.int .i64 p.player) ∧ W.cell? ⟨w6.heap.size, 0, none⟩ = some (.slice xa z.pits.length xc) ∧ W.cell? ⟨w6.heap.size, 1, none⟩ = some (.slice za z.stores.length zc) ∧ W.cell? ⟨w6.heap.size, 2, none⟩ = some (.int .i64 z.player) ∧ W.cell? ⟨g, n * 6, none⟩ = some (.int .i64 (k : Int)) ∧ W.cell? ⟨g, n * 6 + 1, none⟩ = some (.int .i64 z.gain) ∧ W.cell? ⟨g, n * 6 + 2, none⟩ = some (.bool z.again) ∧ W.cell? ⟨g, n * 6 + 3, none⟩ = some (.slice xm.pa z.pits.length xm.pc) ∧ W.cell? ⟨g, n * 6 + 4, none⟩ = some (.slice xm.sa z.stores.length xm.sc) ∧ W.cell? ⟨g, n * 6 + 5, none⟩ = some (.int .i64 z.player) ∧ W.cell? ⟨mb, mo + n, none⟩ = some (.int .i64 (k : Int)))) := fun W hW => by
      have k5 := (bcell (B7.trans (hW.mono B7.size))).1
      have k7 := (bcell hW).1
      exact ⟨(k5 _ _ (by omega)).trans (FR.out 0 _ rfl), (k5 _ _ (by omega)).trans (FR.out 1 _ rfl), (k5 _ _ (by omega)).trans (FR.out 2 _ rfl), (k5 _ _ (by omega)).trans (FR.out 3 _ rfl), (k5 _ _ (by omega)).trans (FR.out 4 _ rfl), (k5 _ _ (by omega)).trans (FR.out 5 _ rfl), (k5 _ _ (by omega)).trans (FR.out 6 _ rfl), (k5 _ _ (by omega)).trans (FR.out 7 _ rfl), (k5 _ _ (by omega)).trans (FR.out 8 _ rfl), (k5 _ _ (by omega)).trans (FP.out 0 _ rfl), (k5 _ _ (by omega)).trans (FP.out 1 _ rfl), (k5 _ _ (by omega)).trans (FP.out 2 _ rfl), (k7 _ _ hb7).trans (A7.box 0 _ rfl), (k7 _ _ hb7).trans (A7.box 1 _ rfl), (k7 _ _ hb7).trans (A7.box 2 _ rfl), (k5 _ _ hgl).trans y0, (k5 _ _ hgl).trans y1, (k5 _ _ hgl).trans y2, (k5 _ _ hgl).trans y3, (k5 _ _ hgl).trans y4, (k5 _ _ hgl).trans y5, (k5 _ _ hmb).trans hms⟩
    have HV : Hid (∀ W, Below (w6.alloc (.cells #[.slice xa z.pits.length xc, .slice za z.stores.length zc, .int .i64 z.player] 27)).heap.size (w6.alloc (.cells #[.slice xa z.pits.length xc, .slice za z.stores.length zc, .int .i64 z.player] 27)) W → Below w5.heap.size w5 W) := fun W hW => B7.trans (hW.mono B7.size)
    have HVP := Lib.hid hval
    have HNL := Lib.hid hnN
    have hdn : decide (N ≤ n) = false := decide_eq_false (by omega)
    have hlt : (n : Int) < (N : Int) := by omega
    have h0n : (0 : Int) ≤ (n : Int) := by omega
    have hZL : z.pits.length ≤ 16 ∧ z.stores.length ≤ 16 := by have := P.ok_lens hval; exact this
    obtain ⟨zl1, zl2⟩ := hZL
    subst hma
    subst hga
    have HFC := Lib.hid (⟨f2, f3, f4, f5, f7, f8⟩ : _ ∧ _ ∧ _ ∧ _ ∧ _ ∧ _)
    have HMG := Lib.hid (iMovesAgain_c r p (k : Int) A.pa A.sa A.pc A.sc)
    rw [← HZ.out] at HMG
    clear hms y0 y1 y2 y3 y4 y5 hmcs hget hxm A7 f1 f2 f3 f4 f5 f7 f8 hval hcz B6
    go_upto_region 17 with fail
    generalize (w6.alloc (.cells #[.slice xa z.pits.length xc, .slice za z.stores.length zc, .int .i64 z.player] 27)) = w7 at HS HV HR7 B7 hb7 ⊢
    refine heldH (S := fun W => W.cell? ⟨w2.heap.size, 0, none⟩ = some (.int .i64 r.pits) ∧ W.cell? ⟨w2.heap.size, 1, none⟩ = some (.int .i64 r.seeds) ∧ W.cell? ⟨w2.heap.size, 2, none⟩ = some (.bool r.stores) ∧ W.cell? ⟨w2.heap.size, 3, none⟩ = some (.bool r.skip) ∧ W.cell? ⟨w2.heap.size, 4, none⟩ = some (.bool r.relay) ∧ W.cell? ⟨w2.heap.size, 5, none⟩ = some (.bool r.feed) ∧ W.cell? ⟨w2.heap.size, 6, none⟩ = some (.bool r.again) ∧ W.cell? ⟨w2.heap.size, 7, none⟩ = some (.int .i64 r.capture) ∧ W.cell? ⟨w2.heap.size, 8, none⟩ = some (.int .i64 r.slam) ∧ W.cell? ⟨w2.heap.size + 1, 0, none⟩ = some (.slice A.pa p.pits.length A.pc) ∧ W.cell? ⟨w2.heap.size + 1, 1, none⟩ = some (.slice A.sa p.stores.length A.sc) ∧ W.cell? ⟨w2.heap.size + 1, 2, none⟩ = some (.int .i64 p.player) ∧ W.cell? ⟨w6.heap.size, 0, none⟩ = some (.slice xa z.pits.length xc) ∧ W.cell? ⟨w6.heap.size, 1, none⟩ = some (.slice za z.stores.length zc) ∧ W.cell? ⟨w6.heap.size, 2, none⟩ = some (.int .i64 z.player) ∧ W.cell? ⟨g, n * 6, none⟩ = some (.int .i64 (k : Int)) ∧ W.cell? ⟨g, n * 6 + 1, none⟩ = some (.int .i64 z.gain) ∧ W.cell? ⟨g, n * 6 + 2, none⟩ = some (.bool z.again) ∧ W.cell? ⟨g, n * 6 + 3, none⟩ = some (.slice xm.pa z.pits.length xm.pc) ∧ W.cell? ⟨g, n * 6 + 4, none⟩ = some (.slice xm.sa z.stores.length xm.sc) ∧ W.cell? ⟨g, n * 6 + 5, none⟩ = some (.int .i64 z.player) ∧ W.cell? ⟨mb, mo + n, none⟩ = some (.int .i64 (k : Int))) (n := 58) (listed := #[false, false, false, false, false, false, false, false, false, false, false, false, false, false, false, false, false, false, false, false, false, false, false, false, false, false, false, false, false, false, false, false, false, false, false, false, false, false, false, false, false, false, false, false, false, false, false, false, false, false, false, false, false, false, false, false, false, false]) (by kernel_rfl) (by rfl) (by rfl) ?_ (fun hHeld => ?_)
    (focus ((try dsimp only); (first | done | (((refine HS.out _ ?_; first | (with_reducible exact HB10.out) | (with_reducible exact HB9.out) | (with_reducible exact HB8.out) | exact (Below.refl _ _).drew)); done))))
    (refine takeH (i := 0) (v := ?_) (by decide +kernel) (by decide +kernel) (by kernel_rfl) (by rfl) (by exact fun _ _ _ h => h) (by rfl) ?_ (by assumption) ?_); rotate_left; (focus (intro w hSw; (try dsimp only at hSw); go_simp; (try with_reducible rfl); done)); (try simp only [Act.put, List.setIfInBounds_toArray, List.set_cons_zero, List.set_cons_succ])
    (refine takeH (i := 1) (v := ?_) (by decide +kernel) (by decide +kernel) (by kernel_rfl) (by rfl) (by exact fun _ _ _ h => h) (by rfl) ?_ (by assumption) ?_); rotate_left; (focus (intro w hSw; (try dsimp only at hSw); go_simp; (try with_reducible rfl); done)); (try simp only [Act.put, List.setIfInBounds_toArray, List.set_cons_zero, List.set_cons_succ])
    (refine takeH (i := 2) (v := ?_) (by decide +kernel) (by decide +kernel) (by kernel_rfl) (by rfl) (by exact fun _ _ _ h => h) (by rfl) ?_ (by assumption) ?_); rotate_left; (focus (intro w hSw; (try dsimp only at hSw); go_simp; (try with_reducible rfl); done)); (try simp only [Act.put, List.setIfInBounds_toArray, List.set_cons_zero, List.set_cons_succ])
    (refine takeH (i := 3) (v := ?_) (by decide +kernel) (by decide +kernel) (by kernel_rfl) (by rfl) (by exact fun _ _ _ h => h) (by rfl) ?_ (by assumption) ?_); rotate_left; (focus (intro w hSw; (try dsimp only at hSw); go_simp; (try with_reducible rfl); done)); (try simp only [Act.put, List.setIfInBounds_toArray, List.set_cons_zero, List.set_cons_succ])
    (refine takeH (i := 4) (v := ?_) (by decide +kernel) (by decide +kernel) (by kernel_rfl) (by rfl) (by exact fun _ _ _ h => h) (by rfl) ?_ (by assumption) ?_); rotate_left; (focus (intro w hSw; (try dsimp only at hSw); go_simp; (try with_reducible rfl); done)); (try simp only [Act.put, List.setIfInBounds_toArray, List.set_cons_zero, List.set_cons_succ])
    (refine takeH (i := 5) (v := ?_) (by decide +kernel) (by decide +kernel) (by kernel_rfl) (by rfl) (by exact fun _ _ _ h => h) (by rfl) ?_ (by assumption) ?_); rotate_left; (focus (intro w hSw; (try dsimp only at hSw); go_simp; (try with_reducible rfl); done)); (try simp only [Act.put, List.setIfInBounds_toArray, List.set_cons_zero, List.set_cons_succ])
    (refine takeH (i := 6) (v := ?_) (by decide +kernel) (by decide +kernel) (by kernel_rfl) (by rfl) (by exact fun _ _ _ h => h) (by rfl) ?_ (by assumption) ?_); rotate_left; (focus (intro w hSw; (try dsimp only at hSw); go_simp; (try with_reducible rfl); done)); (try simp only [Act.put, List.setIfInBounds_toArray, List.set_cons_zero, List.set_cons_succ])
    refine nextH (i := 7) (by decide +kernel) (by rfl) (by rfl) (fun K hK => ?_)
    (go_simp; go_at_call 65; (refine (sValidPosition_c r ⟨z.pits, z.stores, z.player⟩ xa za xc zc _ (HR7.out.below (Below.refl _ _).drew (Nat.le_refl _)) (by dsimp only; omega) (by dsimp only; omega)).mono ?_); (rintro e w8 ⟨rfl, hb8⟩); (rw [HVP.out]); (have HB8 : Hid (Below w7.heap.size w7 w8) := below_next (Below.refl _ _).drew hb8))
    refine hK.out _ _ ?_ (fun hHeld' => ?_)
    (focus ((try dsimp only); (first | done | (((refine HS.out _ ?_; first | (with_reducible exact HB10.out) | (with_reducible exact HB9.out) | (with_reducible exact HB8.out) | exact (Below.refl _ _).drew)); done))))
    clear hK K hHeld
    have hHeld := hHeld'
    clear hHeld'
    (try simp only [Act.put, List.setIfInBounds_toArray, List.set_cons_zero, List.set_cons_succ])
    (refine takeH (i := 8) (v := ?_) (by decide +kernel) (by decide +kernel) (by kernel_rfl) (by rfl) (by exact fun _ _ _ h => h) (by rfl) ?_ (by assumption) ?_); rotate_left; (focus (intro w hSw; (try dsimp only at hSw); go_simp; (try with_reducible rfl); done)); (try simp only [Act.put, List.setIfInBounds_toArray, List.set_cons_zero, List.set_cons_succ])
    (refine takeH (i := 9) (v := ?_) (by decide +kernel) (by decide +kernel) (by kernel_rfl) (by rfl) (by exact fun _ _ _ h => h) (by rfl) ?_ (by assumption) ?_); rotate_left; (focus (intro w hSw; (try dsimp only at hSw); go_simp; (try with_reducible rfl); done)); (try simp only [Act.put, List.setIfInBounds_toArray, List.set_cons_zero, List.set_cons_succ])
    (refine takeH (i := 10) (v := ?_) (by decide +kernel) (by decide +kernel) (by kernel_rfl) (by rfl) (by exact fun _ _ _ h => h) (by rfl) ?_ (by assumption) ?_); rotate_left; (focus (intro w hSw; (try dsimp only at hSw); go_simp; (try with_reducible rfl); done)); (try simp only [Act.put, List.setIfInBounds_toArray, List.set_cons_zero, List.set_cons_succ])
    (refine takeH (i := 11) (v := ?_) (by decide +kernel) (by decide +kernel) (by kernel_rfl) (by rfl) (by exact fun _ _ _ h => h) (by rfl) ?_ (by assumption) ?_); rotate_left; (focus (intro w hSw; (try dsimp only at hSw); go_simp; (try with_reducible rfl); done)); (try simp only [Act.put, List.setIfInBounds_toArray, List.set_cons_zero, List.set_cons_succ])
    (refine takeH (i := 12) (v := ?_) (by decide +kernel) (by decide +kernel) (by kernel_rfl) (by rfl) (by exact fun _ _ _ h => h) (by rfl) ?_ (by assumption) ?_); rotate_left; (focus (intro w hSw; (try dsimp only at hSw); go_simp; (try with_reducible rfl); done)); (try simp only [Act.put, List.setIfInBounds_toArray, List.set_cons_zero, List.set_cons_succ])
    (refine takeH (i := 13) (v := ?_) (by decide +kernel) (by decide +kernel) (by kernel_rfl) (by rfl) (by exact fun _ _ _ h => h) (by rfl) ?_ (by assumption) ?_); rotate_left; (focus (intro w hSw; (try dsimp only at hSw); go_simp; (try with_reducible rfl); done)); (try simp only [Act.put, List.setIfInBounds_toArray, List.set_cons_zero, List.set_cons_succ])
    (refine takeH (i := 14) (v := ?_) (by decide +kernel) (by decide +kernel) (by kernel_rfl) (by rfl) (by exact fun _ _ _ h => h) (by rfl) ?_ (by assumption) ?_); rotate_left; (focus (intro w hSw; (try dsimp only at hSw); go_simp; (try with_reducible rfl); done)); (try simp only [Act.put, List.setIfInBounds_toArray, List.set_cons_zero, List.set_cons_succ])
    (refine takeH (i := 15) (v := ?_) (by decide +kernel) (by decide +kernel) (by kernel_rfl) (by rfl) (by exact fun _ _ _ h => h) (by rfl) ?_ (by assumption) ?_); rotate_left; (focus (intro w hSw; (try dsimp only at hSw); go_simp; (try with_reducible rfl); done)); (try simp only [Act.put, List.setIfInBounds_toArray, List.set_cons_zero, List.set_cons_succ])
    (refine takeH (i := 16) (v := ?_) (by decide +kernel) (by decide +kernel) (by kernel_rfl) (by rfl) (by exact fun _ _ _ h => h) (by rfl) ?_ (by assumption) ?_); rotate_left; (focus (intro w hSw; (try dsimp only at hSw); go_simp; (try with_reducible rfl); done)); (try simp only [Act.put, List.setIfInBounds_toArray, List.set_cons_zero, List.set_cons_succ])
    (refine takeH (i := 17) (v := ?_) (by decide +kernel) (by decide +kernel) (by kernel_rfl) (by rfl) (by exact fun _ _ _ h => h) (by rfl) ?_ (by assumption) ?_); rotate_left; (focus (intro w hSw; (try dsimp only at hSw); go_simp; (try with_reducible rfl); done)); (try simp only [Act.put, List.setIfInBounds_toArray, List.set_cons_zero, List.set_cons_succ])
    (refine takeH (i := 18) (v := ?_) (by decide +kernel) (by decide +kernel) (by kernel_rfl) (by rfl) (by exact fun _ _ _ h => h) (by rfl) ?_ (by assumption) ?_); rotate_left; (focus (intro w hSw; (try dsimp only at hSw); go_simp; (try with_reducible rfl); done)); (try simp only [Act.put, List.setIfInBounds_toArray, List.set_cons_zero, List.set_cons_succ])
    (refine takeH (i := 19) (v := ?_) (by decide +kernel) (by decide +kernel) (by kernel_rfl) (by rfl) (by exact fun _ _ _ h => h) (by rfl) ?_ (by assumption) ?_); rotate_left; (focus (intro w hSw; (try dsimp only at hSw); go_simp; (try with_reducible rfl); done)); (try simp only [Act.put, List.setIfInBounds_toArray, List.set_cons_zero, List.set_cons_succ])
    (refine takeH (i := 20) (v := ?_) (by decide +kernel) (by decide +kernel) (by kernel_rfl) (by rfl) (by exact fun _ _ _ h => h) (by rfl) ?_ (by assumption) ?_); rotate_left; (focus (intro w hSw; (try dsimp only at hSw); go_simp; (try with_reducible rfl); done)); (try simp only [Act.put, List.setIfInBounds_toArray, List.set_cons_zero, List.set_cons_succ])
    (refine takeH (i := 21) (v := ?_) (by decide +kernel) (by decide +kernel) (by kernel_rfl) (by rfl) (by exact fun _ _ _ h => h) (by rfl) ?_ (by assumption) ?_); rotate_left; (focus (intro w hSw; (try dsimp only at hSw); go_simp; (try with_reducible rfl); done)); (try simp only [Act.put, List.setIfInBounds_toArray, List.set_cons_zero, List.set_cons_succ])
    (refine takeH (i := 22) (v := ?_) (by decide +kernel) (by decide +kernel) (by kernel_rfl) (by rfl) (by exact fun _ _ _ h => h) (by rfl) ?_ (by assumption) ?_); rotate_left; (focus (intro w hSw; (try dsimp only at hSw); go_simp; (try with_reducible rfl); done)); (try simp only [Act.put, List.setIfInBounds_toArray, List.set_cons_zero, List.set_cons_succ])
    (refine takeH (i := 23) (v := ?_) (by decide +kernel) (by decide +kernel) (by kernel_rfl) (by rfl) (by exact fun _ _ _ h => h) (by rfl) ?_ (by assumption) ?_); rotate_left; (focus (intro w hSw; (try dsimp only at hSw); go_simp; (try with_reducible rfl); done)); (try simp only [Act.put, List.setIfInBounds_toArray, List.set_cons_zero, List.set_cons_succ])
    (refine takeH (i := 24) (v := ?_) (by decide +kernel) (by decide +kernel) (by kernel_rfl) (by rfl) (by exact fun _ _ _ h => h) (by rfl) ?_ (by assumption) ?_); rotate_left; (focus (intro w hSw; (try dsimp only at hSw); go_simp; (try with_reducible rfl); done)); (try simp only [Act.put, List.setIfInBounds_toArray, List.set_cons_zero, List.set_cons_succ])
    (refine takeH (i := 25) (v := ?_) (by decide +kernel) (by decide +kernel) (by kernel_rfl) (by rfl) (by exact fun _ _ _ h => h) (by rfl) ?_ (by assumption) ?_); rotate_left; (focus (intro w hSw; (try dsimp only at hSw); go_simp; (try with_reducible rfl); done)); (try simp only [Act.put, List.setIfInBounds_toArray, List.set_cons_zero, List.set_cons_succ])
    (refine takeH (i := 26) (v := ?_) (by decide +kernel) (by decide +kernel) (by kernel_rfl) (by rfl) (by exact fun _ _ _ h => h) (by rfl) ?_ (by assumption) ?_); rotate_left; (focus (intro w hSw; (try dsimp only at hSw); go_simp; (try with_reducible rfl); done)); (try simp only [Act.put, List.setIfInBounds_toArray, List.set_cons_zero, List.set_cons_succ])
    (refine takeH (i := 27) (v := ?_) (by decide +kernel) (by decide +kernel) (by kernel_rfl) (by rfl) (by exact fun _ _ _ h => h) (by rfl) ?_ (by assumption) ?_); rotate_left; (focus (intro w hSw; (try dsimp only at hSw); go_simp; (try with_reducible rfl); done)); (try simp only [Act.put, List.setIfInBounds_toArray, List.set_cons_zero, List.set_cons_succ])
    (refine takeH (i := 28) (v := ?_) (by decide +kernel) (by decide +kernel) (by kernel_rfl) (by rfl) (by exact fun _ _ _ h => h) (by rfl) ?_ (by assumption) ?_); rotate_left; (focus (intro w hSw; (try dsimp only at hSw); go_simp; (try with_reducible rfl); done)); (try simp only [Act.put, List.setIfInBounds_toArray, List.set_cons_zero, List.set_cons_succ])
    (refine takeH (i := 29) (v := ?_) (by decide +kernel) (by decide +kernel) (by kernel_rfl) (by rfl) (by exact fun _ _ _ h => h) (by rfl) ?_ (by assumption) ?_); rotate_left; (focus (intro w hSw; (try dsimp only at hSw); go_simp; (try with_reducible rfl); done)); (try simp only [Act.put, List.setIfInBounds_toArray, List.set_cons_zero, List.set_cons_succ])
    (refine takeH (i := 30) (v := ?_) (by decide +kernel) (by decide +kernel) (by kernel_rfl) (by rfl) (by exact fun _ _ _ h => h) (by rfl) ?_ (by assumption) ?_); rotate_left; (focus (intro w hSw; (try dsimp only at hSw); go_simp; (try with_reducible rfl); done)); (try simp only [Act.put, List.setIfInBounds_toArray, List.set_cons_zero, List.set_cons_succ])
    (refine takeH (i := 31) (v := ?_) (by decide +kernel) (by decide +kernel) (by kernel_rfl) (by rfl) (by exact fun _ _ _ h => h) (by rfl) ?_ (by assumption) ?_); rotate_left; (focus (intro w hSw; (try dsimp only at hSw); go_simp; (try with_reducible rfl); done)); (try simp only [Act.put, List.setIfInBounds_toArray, List.set_cons_zero, List.set_cons_succ])
    (refine takeH (i := 32) (v := ?_) (by decide +kernel) (by decide +kernel) (by kernel_rfl) (by rfl) (by exact fun _ _ _ h => h) (by rfl) ?_ (by assumption) ?_); rotate_left; (focus (intro w hSw; (try dsimp only at hSw); go_simp; (try with_reducible rfl); done)); (try simp only [Act.put, List.setIfInBounds_toArray, List.set_cons_zero, List.set_cons_succ])
    (refine takeH (i := 33) (v := ?_) (by decide +kernel) (by decide +kernel) (by kernel_rfl) (by rfl) (by exact fun _ _ _ h => h) (by rfl) ?_ (by assumption) ?_); rotate_left; (focus (intro w hSw; (try dsimp only at hSw); go_simp; (try with_reducible rfl); done)); (try simp only [Act.put, List.setIfInBounds_toArray, List.set_cons_zero, List.set_cons_succ])
    (refine takeH (i := 34) (v := ?_) (by decide +kernel) (by decide +kernel) (by kernel_rfl) (by rfl) (by exact fun _ _ _ h => h) (by rfl) ?_ (by assumption) ?_); rotate_left; (focus (intro w hSw; (try dsimp only at hSw); go_simp; (try with_reducible rfl); done)); (try simp only [Act.put, List.setIfInBounds_toArray, List.set_cons_zero, List.set_cons_succ])
    (refine takeH (i := 35) (v := ?_) (by decide +kernel) (by decide +kernel) (by kernel_rfl) (by rfl) (by exact fun _ _ _ h => h) (by rfl) ?_ (by assumption) ?_); rotate_left; (focus (intro w hSw; (try dsimp only at hSw); go_simp; (try with_reducible rfl); done)); (try simp only [Act.put, List.setIfInBounds_toArray, List.set_cons_zero, List.set_cons_succ])
    (refine takeH (i := 36) (v := ?_) (by decide +kernel) (by decide +kernel) (by kernel_rfl) (by rfl) (by exact fun _ _ _ h => h) (by rfl) ?_ (by assumption) ?_); rotate_left; (focus (intro w hSw; (try dsimp only at hSw); go_simp; (try with_reducible rfl); done)); (try simp only [Act.put, List.setIfInBounds_toArray, List.set_cons_zero, List.set_cons_succ])
    (refine takeH (i := 37) (v := ?_) (by decide +kernel) (by decide +kernel) (by kernel_rfl) (by rfl) (by exact fun _ _ _ h => h) (by rfl) ?_ (by assumption) ?_); rotate_left; (focus (intro w hSw; (try dsimp only at hSw); go_simp; (try with_reducible rfl); done)); (try simp only [Act.put, List.setIfInBounds_toArray, List.set_cons_zero, List.set_cons_succ])
    (refine takeH (i := 38) (v := ?_) (by decide +kernel) (by decide +kernel) (by kernel_rfl) (by rfl) (by exact fun _ _ _ h => h) (by rfl) ?_ (by assumption) ?_); rotate_left; (focus (intro w hSw; (try dsimp only at hSw); go_simp; (try with_reducible rfl); done)); (try simp only [Act.put, List.setIfInBounds_toArray, List.set_cons_zero, List.set_cons_succ])
    (refine takeH (i := 39) (v := ?_) (by decide +kernel) (by decide +kernel) (by kernel_rfl) (by rfl) (by exact fun _ _ _ h => h) (by rfl) ?_ (by assumption) ?_); rotate_left; (focus (intro w hSw; (try dsimp only at hSw); go_simp; (try with_reducible rfl); done)); (try simp only [Act.put, List.setIfInBounds_toArray, List.set_cons_zero, List.set_cons_succ])
    (refine takeH (i := 40) (v := ?_) (by decide +kernel) (by decide +kernel) (by kernel_rfl) (by rfl) (by exact fun _ _ _ h => h) (by rfl) ?_ (by assumption) ?_); rotate_left; (focus (intro w hSw; (try dsimp only at hSw); go_simp; (try with_reducible rfl); done)); (try simp only [Act.put, List.setIfInBounds_toArray, List.set_cons_zero, List.set_cons_succ])
    (refine takeH (i := 41) (v := ?_) (by decide +kernel) (by decide +kernel) (by kernel_rfl) (by rfl) (by exact fun _ _ _ h => h) (by rfl) ?_ (by assumption) ?_); rotate_left; (focus (intro w hSw; (try dsimp only at hSw); go_simp; (try with_reducible rfl); done)); (try simp only [Act.put, List.setIfInBounds_toArray, List.set_cons_zero, List.set_cons_succ])
    (refine takeH (i := 42) (v := ?_) (by decide +kernel) (by decide +kernel) (by kernel_rfl) (by rfl) (by exact fun _ _ _ h => h) (by rfl) ?_ (by assumption) ?_); rotate_left; (focus (intro w hSw; (try dsimp only at hSw); go_simp; (try with_reducible rfl); done)); (try simp only [Act.put, List.setIfInBounds_toArray, List.set_cons_zero, List.set_cons_succ])
    refine nextH (i := 43) (by decide +kernel) (by rfl) (by rfl) (fun K hK => ?_)
    (go_simp; go_at_call 66; (refine (sSamePosition_c ⟨z.pits, z.stores, z.player⟩ ⟨z.pits, z.stores, z.player⟩ xm.pa xm.sa xa za xm.pc xm.sc xc zc _ (HIT.out.below (HV.out _ HB8.out) (Nat.le_refl _)) (HR7.out.below HB8.out (Nat.le_refl _)) (by unfold maxLen; dsimp only; omega) (by unfold maxLen; dsimp only; omega) (by unfold maxLen; dsimp only; omega) (by unfold maxLen; dsimp only; omega)).mono ?_); (rintro e w9 ⟨rfl, hb9⟩); (rw [decide_eq_true rfl]); (have HB9 := Lib.hid (below_next HB8.out hb9)))
    refine hK.out _ _ ?_ (fun hHeld' => ?_)
    (focus ((try dsimp only); (first | done | (((refine HS.out _ ?_; first | (with_reducible exact HB10.out) | (with_reducible exact HB9.out) | (with_reducible exact HB8.out) | exact (Below.refl _ _).drew)); done))))
    clear hK K hHeld
    have hHeld := hHeld'
    clear hHeld'
    (try simp only [Act.put, List.setIfInBounds_toArray, List.set_cons_zero, List.set_cons_succ])
    (refine takeH (i := 44) (v := ?_) (by decide +kernel) (by decide +kernel) (by kernel_rfl) (by rfl) (by exact fun _ _ _ h => h) (by rfl) ?_ (by assumption) ?_); rotate_left; (focus (intro w hSw; (try dsimp only at hSw); go_simp; (try with_reducible rfl); done)); (try simp only [Act.put, List.setIfInBounds_toArray, List.set_cons_zero, List.set_cons_succ])
    (refine takeH (i := 45) (v := ?_) (by decide +kernel) (by decide +kernel) (by kernel_rfl) (by rfl) (by exact fun _ _ _ h => h) (by rfl) ?_ (by assumption) ?_); rotate_left; (focus (intro w hSw; (try dsimp only at hSw); go_simp; (try with_reducible rfl); done)); (try simp only [Act.put, List.setIfInBounds_toArray, List.set_cons_zero, List.set_cons_succ])
    (refine takeH (i := 46) (v := ?_) (by decide +kernel) (by decide +kernel) (by kernel_rfl) (by rfl) (by exact fun _ _ _ h => h) (by rfl) ?_ (by assumption) ?_); rotate_left; (focus (intro w hSw; (try dsimp only at hSw); go_simp; (try with_reducible rfl); done)); (try simp only [Act.put, List.setIfInBounds_toArray, List.set_cons_zero, List.set_cons_succ])
    (refine takeH (i := 47) (v := ?_) (by decide +kernel) (by decide +kernel) (by kernel_rfl) (by rfl) (by exact fun _ _ _ h => h) (by rfl) ?_ (by assumption) ?_); rotate_left; (focus (intro w hSw; (try dsimp only at hSw); go_simp; (try with_reducible rfl); done)); (try simp only [Act.put, List.setIfInBounds_toArray, List.set_cons_zero, List.set_cons_succ])
    (refine takeH (i := 48) (v := ?_) (by decide +kernel) (by decide +kernel) (by kernel_rfl) (by rfl) (by exact fun _ _ _ h => h) (by rfl) ?_ (by assumption) ?_); rotate_left; (focus (intro w hSw; (try dsimp only at hSw); go_simp; (try with_reducible rfl); done)); (try simp only [Act.put, List.setIfInBounds_toArray, List.set_cons_zero, List.set_cons_succ])
    (refine takeH (i := 49) (v := ?_) (by decide +kernel) (by decide +kernel) (by kernel_rfl) (by rfl) (by exact fun _ _ _ h => h) (by rfl) ?_ (by assumption) ?_); rotate_left; (focus (intro w hSw; (try dsimp only at hSw); go_simp; (try with_reducible rfl); done)); (try simp only [Act.put, List.setIfInBounds_toArray, List.set_cons_zero, List.set_cons_succ])
    (refine takeH (i := 50) (v := ?_) (by decide +kernel) (by decide +kernel) (by kernel_rfl) (by rfl) (by exact fun _ _ _ h => h) (by rfl) ?_ (by assumption) ?_); rotate_left; (focus (intro w hSw; (try dsimp only at hSw); go_simp; (try with_reducible rfl); done)); (try simp only [Act.put, List.setIfInBounds_toArray, List.set_cons_zero, List.set_cons_succ])
    (refine takeH (i := 51) (v := ?_) (by decide +kernel) (by decide +kernel) (by kernel_rfl) (by rfl) (by exact fun _ _ _ h => h) (by rfl) ?_ (by assumption) ?_); rotate_left; (focus (intro w hSw; (try dsimp only at hSw); go_simp; (try with_reducible rfl); done)); (try simp only [Act.put, List.setIfInBounds_toArray, List.set_cons_zero, List.set_cons_succ])
    (refine takeH (i := 52) (v := ?_) (by decide +kernel) (by decide +kernel) (by kernel_rfl) (by rfl) (by exact fun _ _ _ h => h) (by rfl) ?_ (by assumption) ?_); rotate_left; (focus (intro w hSw; (try dsimp only at hSw); go_simp; (try with_reducible rfl); done)); (try simp only [Act.put, List.setIfInBounds_toArray, List.set_cons_zero, List.set_cons_succ])
    (refine takeH (i := 53) (v := ?_) (by decide +kernel) (by decide +kernel) (by kernel_rfl) (by rfl) (by exact fun _ _ _ h => h) (by rfl) ?_ (by assumption) ?_); rotate_left; (focus (intro w hSw; (try dsimp only at hSw); go_simp; (try with_reducible rfl); done)); (try simp only [Act.put, List.setIfInBounds_toArray, List.set_cons_zero, List.set_cons_succ])
    (refine takeH (i := 54) (v := ?_) (by decide +kernel) (by decide +kernel) (by kernel_rfl) (by rfl) (by exact fun _ _ _ h => h) (by rfl) ?_ (by assumption) ?_); rotate_left; (focus (intro w hSw; (try dsimp only at hSw); go_simp; (try with_reducible rfl); done)); (try simp only [Act.put, List.setIfInBounds_toArray, List.set_cons_zero, List.set_cons_succ])
    refine nextH (i := 55) (by decide +kernel) (by rfl) (by rfl) (fun K hK => ?_)
    (go_simp; go_at_call 67; (refine (HMG.out _ (HP5.out.below (HV.out _ HB9.out) (Nat.le_refl _)) (by omega) (by omega) HPC.out.1 HPC.out.2).mono ?_); (rintro e w10 ⟨rfl, hb10⟩); (have HB10 := Lib.hid (below_next HB9.out hb10)))
    refine hK.out _ _ ?_ (fun hHeld' => ?_)
    (focus ((try dsimp only); (first | done | (((refine HS.out _ ?_; first | (with_reducible exact HB10.out) | (with_reducible exact HB9.out) | (with_reducible exact HB8.out) | exact (Below.refl _ _).drew)); done))))
    clear hK K hHeld
    have hHeld := hHeld'
    clear hHeld'
    (try simp only [Act.put, List.setIfInBounds_toArray, List.set_cons_zero, List.set_cons_succ])
    (refine takeH (i := 56) (v := ?_) (by decide +kernel) (by decide +kernel) (by kernel_rfl) (by rfl) (by exact fun _ _ _ h => h) (by rfl) ?_ (by assumption) ?_); rotate_left; (focus (intro w hSw; (try dsimp only at hSw); go_simp; (try with_reducible rfl); done)); (try simp only [Act.put, List.setIfInBounds_toArray, List.set_cons_zero, List.set_cons_succ])
    (refine takeH (i := 57) (v := ?_) (by decide +kernel) (by decide +kernel) (by kernel_rfl) (by rfl) (by exact fun _ _ _ h => h) (by rfl) ?_ (by assumption) ?_); rotate_left; (focus (intro w hSw; (try dsimp only at hSw); go_simp; (try with_reducible rfl); done)); (try simp only [Act.put, List.setIfInBounds_toArray, List.set_cons_zero, List.set_cons_succ])
    refine wpAnyH_done (by decide +kernel) ?_ _
    have B10 := Lib.hid HB10.out
    obtain ⟨f2, f3, f4, f5, f7, f8⟩ := HFC.out
    obtain ⟨pn, hpn⟩ : ∃ pn : Nat, p.player = pn := ⟨p.player.toNat, by omega⟩
    have hpn1 : pn ≤ 1 := by omega
    have e1 : z.stores.getD pn 0 = z.stores[pn]'(by omega) := by simp [List.getD_eq_getElem?_getD, show pn < z.stores.length by omega]
    have e2 : p.stores.getD pn 0 = p.stores[pn]'(by omega) := by simp [List.getD_eq_getElem?_getD, show pn < p.stores.length by omega]
    obtain ⟨zb, zo, hza, hzb, hzcs⟩ := Ints.open HR7.out.stores (by show 0 < z.stores.length; omega)
    obtain ⟨sb, so, hsa, hsb, hscs⟩ := Ints.open HP5.out.stores (by omega)
    obtain ⟨s1, hs1⟩ : ∃ s1, s1 = z.stores[pn]'(by omega) := ⟨_, rfl⟩
    obtain ⟨s2, hs2⟩ : ∃ s2, s2 = p.stores[pn]'(by omega) := ⟨_, rfl⟩
    have k1 := f7 pn
    have k2 := f8 pn
    rw [e1, ← hs1] at k1
    rw [e2, ← hs2] at k2
    rw [hpn, Int.toNat_natCast, e1, e2, ← hs1, ← hs2] at f2
    have q1 : w7.cell? ⟨zb, zo + pn, none⟩ = some (.int .i64 s1) := by rw [hs1]; exact hzcs pn (by show pn < z.stores.length; omega)
    have q2 : w5.cell? ⟨sb, so + pn, none⟩ = some (.int .i64 s2) := by rw [hs2]; exact hscs pn (by omega)
    have hwr : IntKind.i64.wrap (s1 - s2) = z.gain := by rw [f2]; exact IntWalk.i64_in _ (by omega)
    have hg0 : decide (z.gain < 0) = false := decide_eq_false (by omega)
    have hi1 : p.player < (z.stores.length : Int) := by omega
    have hi2 : p.player < (p.stores.length : Int) := by omega
    have hi3 : p.player < 2 := by omega
    have hpN : p.player.toNat = pn := by omega
    have hS2 : Hid (∀ W, Below w7.heap.size w7 W → (W.cell? ⟨w2.heap.size + 1, 0, none⟩ = some (.slice A.pa p.pits.length A.pc) ∧ W.cell? ⟨w2.heap.size + 1, 1, none⟩ = some (.slice (some ⟨sb, so, none⟩) p.stores.length A.sc) ∧ W.cell? ⟨w2.heap.size + 1, 2, none⟩ = some (.int .i64 p.player) ∧ W.cell? ⟨w6.heap.size, 0, none⟩ = some (.slice xa z.pits.length xc) ∧ W.cell? ⟨w6.heap.size, 1, none⟩ = some (.slice (some ⟨zb, zo, none⟩) z.stores.length zc) ∧ W.cell? ⟨w6.heap.size, 2, none⟩ = some (.int .i64 z.player) ∧ W.cell? ⟨g, n * 6 + 2, none⟩ = some (.bool z.again) ∧ W.cell? ⟨zb, zo + pn, none⟩ = some (.int .i64 s1) ∧ W.cell? ⟨sb, so + pn, none⟩ = some (.int .i64 s2))) := fun W hW => by
      have k5 := (bcell (HV.out W hW)).1
      have k7 := (bcell hW).1
      obtain ⟨_, _, _, _, _, _, _, _, _, a0, a1, a2, b0, b1, b2, _, _, l2, _⟩ := HS.out W hW
      rw [hsa] at a1
      rw [hza] at b1
      exact ⟨a0, a1, a2, b0, b1, b2, l2, (k7 _ _ hzb).trans q1, (k5 _ _ hsb).trans q2⟩
    subst hza
    clear q1 q2 hs1 hs2 e1 e2 f2 k1 k2 f5 f7 f8 hzcs hscs HS hHeld hb8 hb9 hb10 HB8 HB9 hpn
    go_upto_region 19 with fail
    refine heldH (S := fun W => W.cell? ⟨w2.heap.size + 1, 0, none⟩ = some (.slice A.pa p.pits.length A.pc) ∧ W.cell? ⟨w2.heap.size + 1, 1, none⟩ = some (.slice (some ⟨sb, so, none⟩) p.stores.length A.sc) ∧ W.cell? ⟨w2.heap.size + 1, 2, none⟩ = some (.int .i64 p.player) ∧ W.cell? ⟨w6.heap.size, 0, none⟩ = some (.slice xa z.pits.length xc) ∧ W.cell? ⟨w6.heap.size, 1, none⟩ = some (.slice (some ⟨zb, zo, none⟩) z.stores.length zc) ∧ W.cell? ⟨w6.heap.size, 2, none⟩ = some (.int .i64 z.player) ∧ W.cell? ⟨g, n * 6 + 2, none⟩ = some (.bool z.again) ∧ W.cell? ⟨zb, zo + pn, none⟩ = some (.int .i64 s1) ∧ W.cell? ⟨sb, so + pn, none⟩ = some (.int .i64 s2)) (n := 32) (listed := #[false, false, false, false, false, false, false, false, false, false, false, false, false, false, false, false, false, false, false, false, false, false, false, false, false, false, false, false, false, false, false, false]) (by kernel_rfl) (by rfl) (by rfl) ?_ (fun hHeld => ?_)
    (focus ((try dsimp only); (first | done | (((refine hS2.out _ ?_; exact B10.out.drew)); done))))
    (refine takeH (i := 0) (v := ?_) (by decide +kernel) (by decide +kernel) (by kernel_rfl) (by rfl) (by exact fun _ _ _ h => h) (by rfl) ?_ (by assumption) ?_); rotate_left; (focus (intro w hSw; (try dsimp only at hSw); go_simp; (try with_reducible rfl); done)); (try simp only [Act.put, List.setIfInBounds_toArray, List.set_cons_zero, List.set_cons_succ])
    (refine takeH (i := 1) (v := ?_) (by decide +kernel) (by decide +kernel) (by kernel_rfl) (by rfl) (by exact fun _ _ _ h => h) (by rfl) ?_ (by assumption) ?_); rotate_left; (focus (intro w hSw; (try dsimp only at hSw); go_simp; (try with_reducible rfl); done)); (try simp only [Act.put, List.setIfInBounds_toArray, List.set_cons_zero, List.set_cons_succ])
    (refine takeH (i := 2) (v := ?_) (by decide +kernel) (by decide +kernel) (by kernel_rfl) (by rfl) (by exact fun _ _ _ h => h) (by rfl) ?_ (by assumption) ?_); rotate_left; (focus (intro w hSw; (try dsimp only at hSw); go_simp; (try with_reducible rfl); done)); (try simp only [Act.put, List.setIfInBounds_toArray, List.set_cons_zero, List.set_cons_succ])
    (refine takeH (i := 3) (v := ?_) (by decide +kernel) (by decide +kernel) (by kernel_rfl) (by rfl) (by exact fun _ _ _ h => h) (by rfl) ?_ (by assumption) ?_); rotate_left; (focus (intro w hSw; (try dsimp only at hSw); go_simp; (try with_reducible rfl); done)); (try simp only [Act.put, List.setIfInBounds_toArray, List.set_cons_zero, List.set_cons_succ])
    (refine takeH (i := 4) (v := ?_) (by decide +kernel) (by decide +kernel) (by kernel_rfl) (by rfl) (by exact fun _ _ _ h => h) (by rfl) ?_ (by assumption) ?_); rotate_left; (focus (intro w hSw; (try dsimp only at hSw); go_simp; (try with_reducible rfl); done)); (try simp only [Act.put, List.setIfInBounds_toArray, List.set_cons_zero, List.set_cons_succ])
    (refine takeH (i := 5) (v := ?_) (by decide +kernel) (by decide +kernel) (by kernel_rfl) (by rfl) (by exact fun _ _ _ h => h) (by rfl) ?_ (by assumption) ?_); rotate_left; (focus (intro w hSw; (try dsimp only at hSw); go_simp; (try with_reducible rfl); done)); (try simp only [Act.put, List.setIfInBounds_toArray, List.set_cons_zero, List.set_cons_succ])
    (refine takeH (i := 6) (v := ?_) (by decide +kernel) (by decide +kernel) (by kernel_rfl) (by rfl) (by exact fun _ _ _ h => h) (by rfl) ?_ (by assumption) ?_); rotate_left; (focus (intro w hSw; (try dsimp only at hSw); go_simp; (try with_reducible rfl); done)); (try simp only [Act.put, List.setIfInBounds_toArray, List.set_cons_zero, List.set_cons_succ])
    (refine takeH (i := 7) (v := ?_) (by decide +kernel) (by decide +kernel) (by kernel_rfl) (by rfl) (by exact fun _ _ _ h => h) (by rfl) ?_ (by assumption) ?_); rotate_left; (focus (intro w hSw; (try dsimp only at hSw); go_simp; (try with_reducible rfl); done)); (try simp only [Act.put, List.setIfInBounds_toArray, List.set_cons_zero, List.set_cons_succ])
    (refine takeH (i := 8) (v := ?_) (by decide +kernel) (by decide +kernel) (by kernel_rfl) (by rfl) (by exact fun _ _ _ h => h) (by rfl) ?_ (by assumption) ?_); rotate_left; (focus (intro w hSw; (try dsimp only at hSw); go_simp; (try with_reducible rfl); done)); (try simp only [Act.put, List.setIfInBounds_toArray, List.set_cons_zero, List.set_cons_succ])
    (refine takeH (i := 9) (v := ?_) (by decide +kernel) (by decide +kernel) (by kernel_rfl) (by rfl) (by exact fun _ _ _ h => h) (by rfl) ?_ (by assumption) ?_); rotate_left; (focus (intro w hSw; (try dsimp only at hSw); go_simp; (try with_reducible rfl); done)); (try simp only [Act.put, List.setIfInBounds_toArray, List.set_cons_zero, List.set_cons_succ])
    (refine takeH (i := 10) (v := ?_) (by decide +kernel) (by decide +kernel) (by kernel_rfl) (by rfl) (by exact fun _ _ _ h => h) (by rfl) ?_ (by assumption) ?_); rotate_left; (focus (intro w hSw; (try dsimp only at hSw); go_simp; (try with_reducible rfl); done)); (try simp only [Act.put, List.setIfInBounds_toArray, List.set_cons_zero, List.set_cons_succ])
    (refine takeH (i := 11) (v := ?_) (by decide +kernel) (by decide +kernel) (by kernel_rfl) (by rfl) (by exact fun _ _ _ h => h) (by rfl) ?_ (by assumption) ?_); rotate_left; (focus (intro w hSw; (try dsimp only at hSw); go_simp; (try with_reducible rfl); done)); (try simp only [Act.put, List.setIfInBounds_toArray, List.set_cons_zero, List.set_cons_succ])
    (refine takeH (i := 12) (v := ?_) (by decide +kernel) (by decide +kernel) (by kernel_rfl) (by rfl) (by exact fun _ _ _ h => h) (by rfl) ?_ (by assumption) ?_); rotate_left; (focus (intro w hSw; (try dsimp only at hSw); go_simp; (try with_reducible rfl); done)); (try simp only [Act.put, List.setIfInBounds_toArray, List.set_cons_zero, List.set_cons_succ])
    (refine takeH (i := 13) (v := ?_) (by decide +kernel) (by decide +kernel) (by kernel_rfl) (by rfl) (by exact fun _ _ _ h => h) (by rfl) ?_ (by assumption) ?_); rotate_left; (focus (intro w hSw; (try dsimp only at hSw); go_simp; (try with_reducible rfl); done)); (try simp only [Act.put, List.setIfInBounds_toArray, List.set_cons_zero, List.set_cons_succ])
    (refine takeH (i := 14) (v := ?_) (by decide +kernel) (by decide +kernel) (by kernel_rfl) (by rfl) (by exact fun _ _ _ h => h) (by rfl) ?_ (by assumption) ?_); rotate_left; (focus (intro w hSw; (try dsimp only at hSw); go_simp; (try with_reducible rfl); done)); (try simp only [Act.put, List.setIfInBounds_toArray, List.set_cons_zero, List.set_cons_succ])
    (refine takeH (i := 15) (v := ?_) (by decide +kernel) (by decide +kernel) (by kernel_rfl) (by rfl) (by exact fun _ _ _ h => h) (by rfl) ?_ (by assumption) ?_); rotate_left; (focus (intro w hSw; (try dsimp only at hSw); go_simp; (try with_reducible rfl); done)); (try simp only [Act.put, List.setIfInBounds_toArray, List.set_cons_zero, List.set_cons_succ])
    (refine takeH (i := 16) (v := ?_) (by decide +kernel) (by decide +kernel) (by kernel_rfl) (by rfl) (by exact fun _ _ _ h => h) (by rfl) ?_ (by assumption) ?_); rotate_left; (focus (intro w hSw; (try dsimp only at hSw); go_simp; (try with_reducible rfl); done)); (try simp only [Act.put, List.setIfInBounds_toArray, List.set_cons_zero, List.set_cons_succ])
    (refine takeH (i := 17) (v := ?_) (by decide +kernel) (by decide +kernel) (by kernel_rfl) (by rfl) (by exact fun _ _ _ h => h) (by rfl) ?_ (by assumption) ?_); rotate_left; (focus (intro w hSw; (try dsimp only at hSw); go_simp; (try with_reducible rfl); done)); (try simp only [Act.put, List.setIfInBounds_toArray, List.set_cons_zero, List.set_cons_succ])
    (refine takeH (i := 18) (v := ?_) (by decide +kernel) (by decide +kernel) (by kernel_rfl) (by rfl) (by exact fun _ _ _ h => h) (by rfl) ?_ (by assumption) ?_); rotate_left; (focus (intro w hSw; (try dsimp only at hSw); go_simp; (try with_reducible rfl); done)); (try simp only [Act.put, List.setIfInBounds_toArray, List.set_cons_zero, List.set_cons_succ])
    (refine takeH (i := 19) (v := ?_) (by decide +kernel) (by decide +kernel) (by kernel_rfl) (by rfl) (by exact fun _ _ _ h => h) (by rfl) ?_ (by assumption) ?_); rotate_left; (focus (intro w hSw; (try dsimp only at hSw); go_simp; (try with_reducible rfl); done)); (try simp only [Act.put, List.setIfInBounds_toArray, List.set_cons_zero, List.set_cons_succ])
    (refine takeH (i := 20) (v := ?_) (by decide +kernel) (by decide +kernel) (by kernel_rfl) (by rfl) (by exact fun _ _ _ h => h) (by rfl) ?_ (by assumption) ?_); rotate_left; (focus (intro w hSw; (try dsimp only at hSw); go_simp; (try with_reducible rfl); done)); (try simp only [Act.put, List.setIfInBounds_toArray, List.set_cons_zero, List.set_cons_succ])
    (refine takeH (i := 21) (v := ?_) (by decide +kernel) (by decide +kernel) (by kernel_rfl) (by rfl) (by exact fun _ _ _ h => h) (by rfl) ?_ (by assumption) ?_); rotate_left; (focus (intro w hSw; (try dsimp only at hSw); go_simp; (try with_reducible rfl); done)); (try simp only [Act.put, List.setIfInBounds_toArray, List.set_cons_zero, List.set_cons_succ])
    (refine takeH (i := 22) (v := ?_) (by decide +kernel) (by decide +kernel) (by kernel_rfl) (by rfl) (by exact fun _ _ _ h => h) (by rfl) ?_ (by assumption) ?_); rotate_left; (focus (intro w hSw; (try dsimp only at hSw); go_simp; (try with_reducible rfl); done)); (try simp only [Act.put, List.setIfInBounds_toArray, List.set_cons_zero, List.set_cons_succ])
    (refine takeH (i := 23) (v := ?_) (by decide +kernel) (by decide +kernel) (by kernel_rfl) (by rfl) (by exact fun _ _ _ h => h) (by rfl) ?_ (by assumption) ?_); rotate_left; (focus (intro w hSw; (try dsimp only at hSw); go_simp; (try with_reducible rfl); done)); (try simp only [Act.put, List.setIfInBounds_toArray, List.set_cons_zero, List.set_cons_succ])
    (refine takeH (i := 24) (v := ?_) (by decide +kernel) (by decide +kernel) (by kernel_rfl) (by rfl) (by exact fun _ _ _ h => h) (by rfl) ?_ (by assumption) ?_); rotate_left; (focus (intro w hSw; (try dsimp only at hSw); go_simp; (try with_reducible rfl); done)); (try simp only [Act.put, List.setIfInBounds_toArray, List.set_cons_zero, List.set_cons_succ])
    (refine takeH (i := 25) (v := ?_) (by decide +kernel) (by decide +kernel) (by kernel_rfl) (by rfl) (by exact fun _ _ _ h => h) (by rfl) ?_ (by assumption) ?_); rotate_left; (focus (intro w hSw; (try dsimp only at hSw); go_simp; (try with_reducible rfl); done)); (try simp only [Act.put, List.setIfInBounds_toArray, List.set_cons_zero, List.set_cons_succ])
    (refine takeH (i := 26) (v := ?_) (by decide +kernel) (by decide +kernel) (by kernel_rfl) (by rfl) (by exact fun _ _ _ h => h) (by rfl) ?_ (by assumption) ?_); rotate_left; (focus (intro w hSw; (try dsimp only at hSw); go_simp; (try with_reducible rfl); done)); (try simp only [Act.put, List.setIfInBounds_toArray, List.set_cons_zero, List.set_cons_succ])
    (refine takeH (i := 27) (v := ?_) (by decide +kernel) (by decide +kernel) (by kernel_rfl) (by rfl) (by exact fun _ _ _ h => h) (by rfl) ?_ (by assumption) ?_); rotate_left; (focus (intro w hSw; (try dsimp only at hSw); go_simp; (try with_reducible rfl); done)); (try simp only [Act.put, List.setIfInBounds_toArray, List.set_cons_zero, List.set_cons_succ])
    (refine takeH (i := 28) (v := ?_) (by decide +kernel) (by decide +kernel) (by kernel_rfl) (by rfl) (by exact fun _ _ _ h => h) (by rfl) ?_ (by assumption) ?_); rotate_left; (focus (intro w hSw; (try dsimp only at hSw); go_simp; (try with_reducible rfl); done)); (try simp only [Act.put, List.setIfInBounds_toArray, List.set_cons_zero, List.set_cons_succ])
    (refine takeH (i := 29) (v := ?_) (by decide +kernel) (by decide +kernel) (by kernel_rfl) (by rfl) (by exact fun _ _ _ h => h) (by rfl) ?_ (by assumption) ?_); rotate_left; (focus (intro w hSw; (try dsimp only at hSw); go_simp; (try with_reducible rfl); done)); (try simp only [Act.put, List.setIfInBounds_toArray, List.set_cons_zero, List.set_cons_succ])
    (refine takeH (i := 30) (v := ?_) (by decide +kernel) (by decide +kernel) (by kernel_rfl) (by rfl) (by exact fun _ _ _ h => h) (by rfl) ?_ (by assumption) ?_); rotate_left; (focus (intro w hSw; (try dsimp only at hSw); go_simp; (try with_reducible rfl); done)); (try simp only [Act.put, List.setIfInBounds_toArray, List.set_cons_zero, List.set_cons_succ])
    (refine takeH (i := 31) (v := ?_) (by decide +kernel) (by decide +kernel) (by kernel_rfl) (by rfl) (by exact fun _ _ _ h => h) (by rfl) ?_ (by assumption) ?_); rotate_left; (focus (intro w hSw; (try dsimp only at hSw); go_simp; (try with_reducible rfl); done)); (try simp only [Act.put, List.setIfInBounds_toArray, List.set_cons_zero, List.set_cons_succ])
    refine wpAnyH_done (by decide +kernel) ?_ _
    have HD : Hid (Below w5.heap.size w5 w10.drew) := HV.out _ B10.out.drew
    clear hHeld hS2 HV
    go_wp2_with fail
    go_roundw
    (case rel =>
      have hR : MvR r p K w5 (.int .i64 ((n : Int) + 1)) (.int .i64 ((k : Int) + 1)) w10.drew := ⟨k + 1, n + 1, by go_num, by go_num, by omega, HN2.out, HD.out⟩
      first
        | exact hR
        | ((repeat apply Exists.intro); exact ⟨hR, rfl⟩)
        | ((repeat apply Exists.intro); refine ⟨hR, ?_⟩; (repeat' apply And.intro) <;> rfl))
    (case measure => (simp [intOf]; omega))
set_option maxRecDepth 100000 in
theorem contract (H : Type) (enc : TypeId × Value → H) (W : World) (base : Nat) (args : Array Value) (ds gs : List (DataW H)) (before : List MemPlace)
    (hval : ∀ (j : Nat) t v, Try.f12.params[j]? = some t → args[j]? = some v → Value.okWide Try.prog W .any base t v)
    (hW : DataW.Whole enc Try.prog Try.f12.params.toList Rows.fnMovesSpec.vars false W args.toList ds gs before) :
    Calls Try.prog 12 args W fun e W' => ∃ v, e = .returned v ∧ Rows.fnMovesSpec.post enc Try.prog Try.f12 false true false false W args v W' := by
  have hW' := hW
  obtain ⟨p, q, hA0, hV, rfl, hfz, hnd⟩ := hW
  have hA : DataW.TrodAll enc Try.prog W 0 (fun _ => true) true Try.f12.params.toList args.toList ds p := hA0
  rw [Try.params12] at hA hval
  obtain ⟨v0, vs0, d0, ds0, p0, q0, hargs, rfl, rfl, h0, r0⟩ := trodAll_cons hA
  obtain ⟨rfl, rfl, rfl⟩ := trodAll_nil r0
  obtain rfl : args = #[v0] := by cases args; simp_all
  obtain ⟨ba0, bc0, bs0, rfl, w0⟩ := arg_bytes (hval 0 55 v0 rfl rfl) h0
  refine (walk ba0 bc0 bs0 W w0.2.1 w0.2.2.2).mono fun e W' ⟨he, hb⟩ => ?_
  subst he
  exact ⟨_, rfl, law_post hW' hb rfl rfl (by kernel_rfl) rfl⟩

set_option maxRecDepth 100000 in
theorem lifted (os : Os) (started : os.Started) (H : Type) (enc : TypeId × Value → H) :
    ReturnsInHanded {} Try.checked os 12 .any (Rows.fnMovesSpec.pre6 enc Try.prog Try.f12 Rows.fnMovesRow.domain false) (Rows.fnMovesSpec.post enc Try.prog Try.f12 false true false false) := by
  refine returnsInHanded_of_change (C := Try.checked) (s := Rows.fnMovesSpec) own started (by kernel_rfl) Try.func12
    (ChangeSpec.witness6 (enc := enc) (C := Try.checked) (s := Rows.fnMovesSpec) false ⟨#[], #[.slice none 0 0], []⟩ 8 (by kernel_rfl) (by kernel_rfl) (by kernel_rfl) (by kernel_rfl)) ?_
  intro W base args ds gs before hval hW _ _
  exact contract H enc W base args ds gs before hval hW

theorem proved : Rows.FnMovesSaid :=
  OpenClaim.holds_of_wide 12 Try.f12 rfl rfl rfl rfl rfl rfl rfl ⟨rfl, rfl, rfl, rfl, rfl⟩ rfl rfl rfl rfl rfl (by kernel_rfl) Try.func12 (by kernel_rfl)
    (of_decide_eq_true (by kernel_rfl)) (by unfold Func.isWrapper; first | (rw [if_pos (by decide +kernel)]; kernel_rfl) | (rw [if_neg (by decide +kernel)]; exact ⟨rfl, rfl⟩))
    (fun os started H enc _ => lifted os started H enc)
end Go.Proofs.Yteabheocbkcmnaa.lMoves
