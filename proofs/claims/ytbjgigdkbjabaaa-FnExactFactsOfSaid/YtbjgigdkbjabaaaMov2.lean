/- Mov2: a move is sown: the code of a move, and the program's functions over it. Each contract holds for every argument, under the premises that it states. -/
import Derived.Test.YtbjgigdkbjabaaaMov
namespace Go.Proofs.Ytbjgigdkbjabaaa
set_option linter.unusedSimpArgs false
set_option linter.unusedVariables false
set_option linter.unnecessarySimpa false
open Go.RowKit Go.ChangeShapes Go.WideShapes Go.ChangeAt Go.Joins

set_option maxRecDepth 100000 in
set_option maxHeartbeats 4000000 in
theorem sowCode_c (r : R) (p : P) (move : Int) (pa sa : Option Addr) (pc sc : Nat) (w : World) (h : PRow w p pa sa) (m1 : p.pits.length ≤ 16777216) (m2 : p.stores.length ≤ 16777216) :
    Calls Try.prog 193 #[r.val, p.val pa pc sa sc, .int .i64 move] w fun e w' => e = .returned (.int .i64 (codeP r p move)) ∧ Below w.heap.size w w' := by
  have F0 := ((Fr.start w).alloc r.cells 33).alloc (p.cells pa pc sa sc) 30
  cases hok : p.ok r
  · have HOK := Lib.hid hok
    go_enter Try.func193, Try.ntmps193
    go_wp2_with fail
    refine (ValidPosition_c r p pa sa pc sc _ (h.below F0.below (Nat.le_refl _)) m1 m2).mono ?_
    rintro e w1 ⟨rfl, hb1⟩
    rw [hok]
    have F1 := F0.step hb1
    clear hok
    go_wp2
    go_ret
    exact ⟨by simp [codeP, HOK.out], F1.below⟩
  obtain ⟨hbd, ⟨pn, hpn, hpn1⟩, t, hB, ht0, ht1⟩ := P.ok_parts hok
  have hlo := hbd.lo
  obtain ⟨b, o, rfl, hbs, hcs⟩ := Ints.open h.pits (by have := hB.lp; omega)
  have HOK := Lib.hid hok
  cases hmv : inB move 0 (r.pits - 1)
  · have HMV := Lib.hid hmv
    clear hmv hpn
    go_enter Try.func193, Try.ntmps193
    go_wp2_with fail
    refine (ValidPosition_c r p _ sa pc sc _ (h.below F0.below (Nat.le_refl _)) m1 m2).mono ?_
    rintro e w1 ⟨rfl, hb1⟩
    rw [hok]
    have F1 := F0.step hb1
    obtain ⟨c0, c1, c2, c3, c4, c5, c6, c7, c8⟩ := R.boxc (F1.at 1 rfl)
    have zA : w.heap.size < w1.heap.size := F1.le 1 rfl
    clear hok hb1
    go_wp2_with (go_at_call 198; refine (isMove_c r move _ hbd).mono ?_; rintro e w2 ⟨rfl, hb2⟩; rw [HMV.out])
    go_ret
    exact ⟨by simp [codeP, HOK.out, HMV.out], (F1.step hb2).below⟩
  have mv := inB_iff.1 hmv
  obtain ⟨fn, hfn, hfl⟩ := from_ok hok mv
  have hcf := hcs fn hfl
  have HPC : Hid (∀ W, Calls Try.prog 121 #[r.val, .int .i64 p.player, .int .i64 move] W fun e w' => e = .returned (.int .i64 (fn : Int)) ∧ Below W.heap.size W w') := fun W => by
    have := pitOf_c r pn move W hbd hpn1 ⟨by omega, by have := hbd.hi; omega⟩
    rw [← hpn, hfn] at this
    exact this
  have HFN : Hid (codeP r p move = if p.pits[fn] = 0 then 6 else 0) := by
    simp only [Hid, codeP, hok, hmv, hfn]
    simp [hfl]
  obtain ⟨v, hv⟩ : ∃ v, v = p.pits[fn] := ⟨_, rfl⟩
  rw [← hv] at hcf HFN
  have HMV := Lib.hid hmv
  clear hmv mv hfn hcs hpn hv
  go_enter Try.func193, Try.ntmps193
  go_wp2_with fail
  refine (ValidPosition_c r p _ sa pc sc _ (h.below F0.below (Nat.le_refl _)) m1 m2).mono ?_
  rintro e w1 ⟨rfl, hb1⟩
  rw [hok]
  have F1 := F0.step hb1
  obtain ⟨c0, c1, c2, c3, c4, c5, c6, c7, c8⟩ := R.boxc (F1.at 1 rfl)
  have zA : w.heap.size < w1.heap.size := F1.le 1 rfl
  clear hok hb1 F0
  go_wp2_with fail
  refine (isMove_c r move _ hbd).mono ?_
  rintro e w2 ⟨rfl, hb2⟩
  rw [HMV.out]
  have F2 := F1.step hb2
  clear c0 c1 c2 c3 c4 c5 c6 c7 c8 zA hb2 F1
  obtain ⟨c0, c1, c2, c3, c4, c5, c6, c7, c8⟩ := R.boxc (F2.at 1 rfl)
  obtain ⟨d0, d1, d2⟩ := P.boxc (F2.at 0 rfl)
  have zA : w.heap.size < w2.heap.size := F2.le 1 rfl
  have zB : w.heap.size + 1 < w2.heap.size := by have := F2.le 0 rfl; simp at this; omega
  simp only [World.size_alloc] at d0 d1 d2
  have hcf2 : w2.cell? ⟨b, o + fn, none⟩ = some (.int .i64 v) := (F2.below.cell (show (Addr.mk b (o + fn) none).block < w.heap.size from hbs)).trans hcf
  have hbs2 : b < w2.heap.size := Nat.lt_of_lt_of_le hbs F2.below.size
  go_wp2_with fail
  go_region_held3 (fun w' => ∀ b o, b < w2.heap.size → w'.cell? ⟨b, o, none⟩ = w2.cell? ⟨b, o, none⟩) (first | exact hcA | (intro b o h; rfl))
    (first
      | (go_at_call 121; refine (HPC.out _).mono ?_; rintro e w3 ⟨rfl, hb3⟩; have hcA : ∀ b o, b < w2.heap.size → w3.cell? ⟨b, o, none⟩ = w2.cell? ⟨b, o, none⟩ := fun b o h => (bcell hb3).1 b o h))
  have B3 := Lib.hid (F2.drew.step hb3).below
  clear hcA hb3 F2 c0 c1 c2 c3 c4 c5 c6 c7 c8 d0 d1 d2
  by_cases hz : v = 0
  · rw [if_pos hz] at HFN
    have hz' : (v == 0) = true := by simpa using hz
    clear hz
    go_wp2
    go_ret
    exact ⟨by rw [HFN.out]; rfl, B3.out⟩
  · rw [if_neg hz] at HFN
    have hz' : (v == 0) = false := by simpa using hz
    clear hz
    go_wp2
    go_ret
    exact ⟨by rw [HFN.out]; rfl, B3.out⟩

/-- a move that is sown, or why not -/
def SowM (w : World) (r : R) (pn : Nat) (code : Int) (o : Option (Lap × Int)) (e : Ending) (w' : World) : Prop :=
  (∃ c, ¬ c = 0 ∧ (c = code ∨ code = 0 ∧ o = none ∧ c = 10) ∧ e = .returned (.tuple #[.pointer none, .int .i64 c]) ∧ Below w.heap.size w w') ∨
  ∃ L n sb pg pc sg sc ta tc, code = 0 ∧ o = some (L, n) ∧ e = .returned (.tuple #[.pointer (some ⟨sb, 0, none⟩), .int .i64 0]) ∧
    SnI w.heap.size w' sb 10 pg pc sg sc L.pits L.stores ∧ Fld w' sb 10 L.last n ∧ SwF w' sb r pn ta L.path.length tc ∧ OwnI w' w.heap.size ta tc L.path ∧ TAp ta L.path.length tc sb pg sg ∧ Below w.heap.size w w'
theorem SnI.le {base base' : Nat} {w : World} {nb no pg pc sg sc : Nat} {P S : List Int} (h : SnI base w nb no pg pc sg sc P S) (hb : base' ≤ base) : SnI base' w nb no pg pc sg sc P S :=
  ⟨h.c0, h.c1, ownsRow_le h.op hb, ownsRow_le h.os hb, Nat.le_trans hb h.nb0, h.n1, h.n2, h.n3⟩
set_option maxRecDepth 100000 in
set_option maxHeartbeats 4000000 in
theorem sowMove_c (r : R) (p : P) (move : Int) (pa sa : Option Addr) (pc sc : Nat) (w : World) (h : PRow w p pa sa) (m1 : p.pits.length ≤ 16777216) (m2 : p.stores.length ≤ 16777216) :
    Calls Try.prog 186 #[r.val, p.val pa pc sa sc, .int .i64 move] w (SowM w r p.player.toNat (codeP r p move) (sowP r p.player (p.player * r.pits + move) p.pits p.stores)) := by
  obtain ⟨o, hoo⟩ : ∃ o, o = sowP r p.player (p.player * r.pits + move) p.pits p.stores := ⟨_, rfl⟩
  rw [← hoo]
  have HOO := Lib.hid hoo
  clear hoo
  have F0 := ((Fr.start w).alloc r.cells 33).alloc (p.cells pa pc sa sc) 30
  obtain ⟨cd, hcd⟩ : ∃ cd, cd = codeP r p move := ⟨_, rfl⟩
  have HCD := Lib.hid hcd
  rw [← hcd]
  have HSC := Lib.hid (fun W H => hcd ▸ sowCode_c r p move pa sa pc sc W H m1 m2 : ∀ W, PRow W p pa sa → Calls Try.prog 193 #[r.val, p.val pa pc sa sc, .int .i64 move] W fun e w' => e = .returned (.int .i64 cd) ∧ Below W.heap.size W w')
  clear hcd
  go_enter Try.func186, Try.ntmps186
  go_wp2_with fail
  refine (HSC.out _ (h.below F0.below (Nat.le_refl _))).mono ?_
  rintro e w1 ⟨rfl, hb1⟩
  have F1 := F0.step hb1
  by_cases hc0 : cd = 0
  case neg =>
    have hc1 : (cd != 0) = true := by simpa using hc0
    have HC0 := Lib.hid hc0
    clear hc0
    go_wp2
    go_ret2
    exact .inl ⟨cd, HC0.out, .inl rfl, rfl, F1.below⟩
  subst hc0
  obtain ⟨hok, mv, hnz⟩ := codeP_zero HCD.out.symm
  obtain ⟨hbd, ⟨pn, hpn, hpn1⟩, t, hB, ht0, ht1⟩ := P.ok_parts hok
  obtain ⟨fn, hfn, hfl⟩ := from_ok hok mv
  have hlp := hB.lp
  have hls := hB.ls
  have hlo := hbd.lo
  obtain ⟨c0, c1, c2, c3, c4, c5, c6, c7, c8⟩ := R.boxc (F1.at 1 rfl)
  obtain ⟨d0, d1, d2⟩ := P.boxc (F1.at 0 rfl)
  have zA : w.heap.size < w1.heap.size := F1.le 1 rfl
  have zB : w.heap.size + 1 < w1.heap.size := by have := F1.le 0 rfl; simp at this; omega
  simp only [World.size_alloc] at d0 d1 d2
  have HNS := Lib.hid (newSowing_c r p pn hpn pa sa pc sc _ (h.below F1.below (Nat.le_refl _)) m1 m2 (by omega) (by omega))
  have HPC : Hid (∀ W, Calls Try.prog 121 #[r.val, .int .i64 p.player, .int .i64 move] W fun e w' => e = .returned (.int .i64 (fn : Int)) ∧ Below W.heap.size W w') := fun W => by
    have := pitOf_c r pn move W hbd hpn1 ⟨by omega, by have := hbd.hi; omega⟩
    rw [← hpn, hfn] at this
    exact this
  have HBR := Lib.hid hB
  have ho := HOO.out
  rw [hfn, hpn] at ho
  have HO := Lib.hid ho
  have HPN : Hid (p.player.toNat = pn) := by unfold Hid; omega
  have hz1 : w.heap.size ≤ w1.heap.size := by omega
  clear hb1 F0 hlp hls hB hfn hpn ho HCD hok hnz
  go_wp2_with fail
  refine HNS.out.mono ?_
  rintro e w2 ⟨sb, pg, qc, sg, tc, ta, tac, rfl, hs, hf, hw, ho, ha, hb2⟩
  have F2 := F1.step hb2
  clear c0 c1 c2 c3 c4 c5 c6 c7 c8 d0 d1 d2 zA zB F1
  obtain ⟨c0, c1, c2, c3, c4, c5, c6, c7, c8⟩ := R.boxc (F2.at 1 rfl)
  obtain ⟨d0, d1, d2⟩ := P.boxc (F2.at 0 rfl)
  have zA : w.heap.size < w2.heap.size := F2.le 1 rfl
  have zB : w.heap.size + 1 < w2.heap.size := by have := F2.le 0 rfl; simp at this; omega
  simp only [World.size_alloc] at d0 d1 d2
  have HS2 := Lib.hid (⟨hs, hf, hw, ho, ha⟩ : _ ∧ _ ∧ _ ∧ _ ∧ _)
  clear hb2 hs hf hw ho ha
  go_wp2_with fail
  refine (HPC.out _).mono ?_
  rintro e w3 ⟨rfl, hb3⟩
  have F3 := F2.step hb3
  obtain ⟨hs, hf, hw, ho, ha⟩ := HS2.out
  have HMV := Lib.hid (move_c w1.heap.size sb pg qc sg tc r hbd pn fn p.pits p.stores t 0 ta tac w3 (hs.below hb3) (hf.below hb3) (hw.below hb3) (own_below ho hb3 (Nat.le_refl _)) ha hpn1 HBR.out (by omega) hfl)
  rw [← HO.out] at HMV
  have HF3 := Lib.hid F3.below
  clear hs hf hw ho ha hb3 F2 F3 HS2 c0 c1 c2 c3 c4 c5 c6 c7 c8 d0 d1 d2
  go_wp2_with fail
  refine HMV.out.mono ?_
  rintro e w4 (⟨ho, rfl, hb4⟩ | ⟨L, n, ta4, tc4, ho, rfl, hs4, hf4, hw4, ho4, ha4, hb4⟩)
  · have HN := Lib.hid ho
    go_wp2
    go_ret2
    exact .inl ⟨10, by decide, .inr ⟨rfl, HN.out, rfl⟩, rfl, HF3.out.trans (hb4.mono hz1)⟩
  · have HN := Lib.hid (⟨ho, hs4, hf4, hw4, ho4, ha4, HF3.out.trans (hb4.mono hz1)⟩ : _ ∧ _ ∧ _ ∧ _ ∧ _ ∧ _ ∧ _)
    clear ho hs4 hf4 hw4 ho4 ha4 hb4
    go_wp2
    go_ret2
    obtain ⟨ho, hs4, hf4, hw4, ho4, ha4, hb4⟩ := HN.out
    refine .inr ⟨L, n, sb, pg, qc, sg, tc, ta4, tc4, rfl, ho, rfl, hs4.le hz1, hf4, ?_, ownsRow_le ho4 hz1, ha4, hb4⟩
    rw [HPN.out]; exact hw4

end Go.Proofs.Ytbjgigdkbjabaaa
