/- FactD: the facts of a move, done: the reference's functions. Each contract holds for every argument, under the premises that it states. -/
import Derived.Test.YtbjgigdkbjabaaaFactC
namespace Go.Proofs.Ytbjgigdkbjabaaa
set_option linter.unusedSimpArgs false
set_option linter.unusedVariables false
set_option linter.unnecessarySimpa false
open Go.RowKit Go.ChangeShapes Go.WideShapes Go.ChangeAt Go.Joins

/-- a position of the call's own, in a box -/
structure OuP (base : Nat) (w : World) (B pg pc sg sc : Nat) (p : P) : Prop where
  sn : SnI base w B 0 pg pc sg sc p.pits p.stores
  c2 : w.cell? ⟨B, 2, none⟩ = some (.int .i64 p.player)
  fz : ∀ o, w.frozen? ⟨B, o, none⟩ = false
theorem OuP.below {base : Nat} {w w' : World} {B pg pc sg sc : Nat} {p : P} (h : OuP base w B pg pc sg sc p) (hb : Below w.heap.size w w') : OuP base w' B pg pc sg sc p := by
  have g := grown_below hb none
  have eB := g.block B h.sn.lt (by simp)
  exact ⟨h.sn.below hb, cell_stab h.c2 eB, fun o => (World.frozen?_of_block (w := w) eB).trans (h.fz o)⟩
theorem OuP.pit {base : Nat} {w : World} {B pg pc sg sc : Nat} {p : P} (h : OuP base w B pg pc sg sc p) (i : Nat) (v : Int) : OuP base (w.setCell ⟨pg, i, none⟩ (.int .i64 v)) B pg pc sg sc ⟨p.pits.set i v, p.stores, p.player⟩ :=
  ⟨h.sn.pit i v, (cell_other (fun e => h.sn.n2 e.symm)).trans h.c2, fun o => by simpa using h.fz o⟩
theorem OuP.sto {base : Nat} {w : World} {B pg pc sg sc : Nat} {p : P} (h : OuP base w B pg pc sg sc p) (i : Nat) (v : Int) : OuP base (w.setCell ⟨sg, i, none⟩ (.int .i64 v)) B pg pc sg sc ⟨p.pits, p.stores.set i v, p.player⟩ :=
  ⟨h.sn.sto i v, (cell_other (fun e => h.sn.n3 e.symm)).trans h.c2, fun o => by simpa using h.fz o⟩
theorem OuP.play {base : Nat} {w : World} {B pg pc sg sc : Nat} {p : P} (h : OuP base w B pg pc sg sc p) (v : Int) : OuP base (w.setCell ⟨B, 2, none⟩ (.int .i64 v)) B pg pc sg sc ⟨p.pits, p.stores, v⟩ :=
  ⟨h.sn.fld 2 _ (by omega), World.cell?_setCell_same _ _ _ h.c2, fun o => by simpa using h.fz o⟩
theorem OuP.own {base low : Nat} {w : World} {B pg pc sg sc : Nat} {p : P} (h : OuP base w B pg pc sg sc p) (hl : low ≤ base) : POwn w low p (some ⟨pg, 0, none⟩) pc (some ⟨sg, 0, none⟩) sc :=
  ⟨ownsRow_le h.sn.op hl, ownsRow_le h.sn.os hl, .inr (by simp [Value.ownBlock]; exact h.sn.n1)⟩
theorem OuP.start {w1 : World} {lo base : Nat} {p : P} {pg pc sg sc : Nat} (h : POwn w1 lo p (some ⟨pg, 0, none⟩) pc (some ⟨sg, 0, none⟩) sc) (hl : base ≤ lo) (h1 : lo ≤ w1.heap.size) (e : TypeId) :
    OuP base (w1.alloc (.cells #[.slice (some ⟨pg, 0, none⟩) p.pits.length pc, .slice (some ⟨sg, 0, none⟩) p.stores.length sc, .int .i64 p.player] e)) w1.heap.size pg pc sg sc p := by
  have hpg := (h.pits.lt pg rfl).2
  have hsg := (h.stores.lt sg rfl).2
  have hne : ¬ pg = sg := fun e => by rcases h.apart with h | h <;> simp [Value.ownBlock] at h; exact h e
  have hb : Below w1.heap.size w1 (w1.alloc (.cells #[.slice (some ⟨pg, 0, none⟩) p.pits.length pc, .slice (some ⟨sg, 0, none⟩) p.stores.length sc, .int .i64 p.player] e)) := below_alloc1 _ _
  have F := (Fr.start w1).allocF #[.slice (some ⟨pg, 0, none⟩) p.pits.length pc, .slice (some ⟨sg, 0, none⟩) p.stores.length sc, .int .i64 p.player] e
  obtain ⟨bx, bf⟩ := F.at 0 rfl
  exact ⟨⟨bx 0 _ rfl, bx 1 _ rfl, ownsRow_le (own_below h.pits hb (Nat.le_refl _)) hl, ownsRow_le (own_below h.stores hb (Nat.le_refl _)) hl, by omega, hne, by omega, by omega⟩, bx 2 _ rfl, bf⟩

/-- a fact that was done, or not -/
def StRes (w : World) (o : Option (P × Int)) (e : Ending) (w' : World) : Prop := Below w.heap.size w w' ∧
  ((o = none ∧ ∃ (q : P) (A : A2) (n : Int), e = .returned (.tuple #[q.val A.pa A.pc A.sa A.sc, .int .i64 n, .bool false])) ∨
   ∃ (q : P) (A : A2) (n : Int), o = some (q, n) ∧ e = .returned (.tuple #[q.val A.pa A.pc A.sa A.sc, .int .i64 n, .bool true]) ∧ POwn w' w.heap.size q A.pa A.pc A.sa A.sc)
set_option maxRecDepth 100000 in
set_option maxHeartbeats 16000000 in
theorem l11Step_c (rb ro pb po : Nat) (r : R) (p : P) (hand : Int) (f : Fc) (T : Int) (pa sa : Option Addr) (pc sc : Nat) (w : World) (hr : R.At w rb ro r) (hp : P.At w pb po p pa pc sa sc) (h : PRow w p pa sa) (ai : AI r T (p, hand)) (hT : T ≤ 1000000) :
    Calls Try.prog 57 #[.pointer (some ⟨rb, ro, none⟩), .pointer (some ⟨pb, po, none⟩), .int .i64 hand, f.val] w (StRes w (stepF r (p, hand) f)) := by
  obtain ⟨pits, stores, player⟩ := p
  obtain ⟨k, pl, c⟩ := f
  obtain ⟨pn, hpn, hpn1⟩ : ∃ pn : Nat, player = (pn : Int) ∧ pn ≤ 1 := ⟨player.toNat, by have := ai.pl; simp only at this; omega, by have := ai.pl; simp only at this; omega⟩
  subst hpn
  have hrb : rb < w.heap.size := World.block_lt_of_cell? w _ hr.c0
  have hpb : pb < w.heap.size := World.block_lt_of_cell? w _ hp.c0
  have F0 := ((Fr.start w).alloc (Fc.cells ⟨k, pl, c⟩) 95).allocF #[.slice none 0 0, .slice none 0 0, .int .i64 0] 30
  simp only [World.size_alloc] at F0
  have hpits := ai.hr
  have HLP : Hid (0 < pits.length ∧ 0 < stores.length ∧ pits.length ≤ 16777216 ∧ stores.length ≤ 16777216) := by
    have a := ai.lp; have b := ai.ls
    simp only at a b
    unfold Hid; omega
  have HPA := Lib.hid (P.At.below hp F0.below hpb)
  have HPR := Lib.hid (h.below F0.below (Nat.le_refl _))
  have HOW := Lib.hid (l04Own_c pb po ⟨pits, stores, pn⟩ pa sa pc sc _ HPA.out HPR.out HLP.out.2.2.1 HLP.out.2.2.2)
  have HR0 : Hid (∀ W, Below w.heap.size w W → W.cell? ⟨rb, ro, none⟩ = some (.int .i64 r.pits) ∧ W.cell? ⟨rb, ro + 2, none⟩ = some (.bool r.stores) ∧ W.cell? ⟨pb, po + 2, none⟩ = some (.int .i64 pn)) := fun W hW => ⟨((bcell hW).1 _ _ hrb).trans hr.c0, ((bcell hW).1 _ _ hrb).trans hr.c2, ((bcell hW).1 _ _ hpb).trans hp.c2⟩
  have HW2 := Lib.hid (fun W => l11Fact_c ⟨k, pl, c⟩ W)
  have hw2p : IntKind.i64.wrap (2 * r.pits) = 2 * r.pits := IntWalk.i64_in _ (by omega)
  clear hr hp h HPA HPR
  cases hcw : Fc.canW ⟨k, pl, c⟩
  · have HS := Lib.hid (show stepF r (⟨pits, stores, pn⟩, hand) ⟨k, pl, c⟩ = none by simp [stepF, hcw])
    rw [hcw] at HW2
    have HCW := HW2
    clear hcw HW2 ai
    go_enter Try.func57, Try.ntmps57
    go_wp2_with fail
    refine HOW.out.mono ?_
    rintro e w1 ⟨ua, uc, va, vc, rfl, ho, hb1⟩
    try simp only [World.size_alloc] at ho
    obtain ⟨pg, rfl, hp1, hp2⟩ := own_lt_n ho.pits HLP.out.1
    obtain ⟨sg, rfl, hs1, hs2⟩ := own_lt_n ho.stores HLP.out.2.1
    have zA : w.heap.size < w1.heap.size := (F0.step hb1).le 1 rfl
    have zB : w.heap.size + 1 < w1.heap.size := (F0.step hb1).le 0 rfl
    have F2 := (F0.step hb1).step (below_alloc1 w1 (.cells #[.slice (some ⟨pg, 0, none⟩) pits.length uc, .slice (some ⟨sg, 0, none⟩) stores.length vc, .int .i64 pn] 30))
    have HO2 := OuP.start (base := w.heap.size + 1 + 1) ho (Nat.le_refl _) zB 30
    obtain ⟨B, hB⟩ : ∃ B, B = w1.heap.size := ⟨_, rfl⟩
    obtain ⟨W2, hW2⟩ : ∃ W, W = (w1.alloc (.cells #[.slice (some ⟨pg, 0, none⟩) pits.length uc, .slice (some ⟨sg, 0, none⟩) stores.length vc, .int .i64 pn] 30)) := ⟨_, rfl⟩
    simp only at HO2
    rw [← hB, ← hW2] at HO2
    rw [← hW2] at F2
    have HF2 := Lib.hid F2
    have HOU := Lib.hid HO2
    have zC : w.heap.size < W2.heap.size := F2.le 1 rfl
    have HSK : Hid (∀ W, Below W2.heap.size W2 W → (W.cell? ⟨w.heap.size, 0, none⟩ = some (.int .i64 k) ∧ W.cell? ⟨w.heap.size, 1, none⟩ = some (.int .i64 pl) ∧ W.cell? ⟨w.heap.size, 2, none⟩ = some (.int .i64 c) ∧ W.cell? ⟨rb, ro, none⟩ = some (.int .i64 r.pits) ∧ W.cell? ⟨rb, ro + 2, none⟩ = some (.bool r.stores))) := fun W hW => ⟨((bcell hW).1 _ _ zC).trans (HF2.out.at 1 rfl 0 _ rfl), ((bcell hW).1 _ _ zC).trans (HF2.out.at 1 rfl 1 _ rfl), ((bcell hW).1 _ _ zC).trans (HF2.out.at 1 rfl 2 _ rfl), (HR0.out _ (HF2.out.step hW).below).1, (HR0.out _ (HF2.out.step hW).below).2.1⟩
    have B0 : Hid (Below W2.heap.size W2 W2.drew) := (Below.refl _ _).drew
    clear ho hb1 F0 F2 HO2 hp1 hp2 hs1 hs2 zA zB HOW
    go_wp2_with fail
    try rw [← hW2]
    try simp only [← hB]
    clear hW2 hB
    refine heldH (S := fun W => W.cell? ⟨w.heap.size, 0, none⟩ = some (.int .i64 k) ∧ W.cell? ⟨w.heap.size, 1, none⟩ = some (.int .i64 pl) ∧ W.cell? ⟨w.heap.size, 2, none⟩ = some (.int .i64 c) ∧ W.cell? ⟨rb, ro, none⟩ = some (.int .i64 r.pits) ∧ W.cell? ⟨rb, ro + 2, none⟩ = some (.bool r.stores)) (n := 25) (listed := #[false, false, false, false, false, false, false, false, false, false, false, false, false, false, false, false, false, false, false, false, false, false, false, false, false]) (by kernel_rfl) (by rfl) (by rfl) ?_ (fun hHeld => ?_)
    (focus ((try dsimp only); (first | done | (((refine HSK.out _ ?_; first | (with_reducible exact HB4.out) | exact B0.out)); done))))
    (refine takeH (i := 0) (v := ?_) (by decide +kernel) (by decide +kernel) (by kernel_rfl) (by rfl) (by exact fun _ _ _ h => h) (by rfl) ?_ (by assumption) ?_); rotate_left; (focus (intro w hSw; (try dsimp only at hSw); go_simp; (try with_reducible rfl); done)); (try simp only [Act.put, List.setIfInBounds_toArray, List.set_cons_zero, List.set_cons_succ])
    refine nextH (i := 1) (by decide +kernel) (by rfl) (by rfl) (fun K hK => ?_)
    go_simp
    ((go_at_call 106; (refine (HCW.out _).mono ?_); (rintro e w4 ⟨rfl, hb4⟩); (have HB4 := Lib.hid (below_next B0.out hb4))))
    refine hK.out _ _ ?_ (fun hHeld' => ?_)
    (focus ((try dsimp only); (first | done | (((refine HSK.out _ ?_; first | (with_reducible exact HB4.out) | exact B0.out)); done))))
    clear hK K hHeld
    have hHeld := hHeld'
    clear hHeld'
    (try simp only [Act.put, List.setIfInBounds_toArray, List.set_cons_zero, List.set_cons_succ])
    (refine takeH (i := 2) (v := ?_) (by decide +kernel) (by decide +kernel) (by kernel_rfl) (by rfl) (by exact fun _ _ _ h => h) (by rfl) ?_ (by assumption) ?_); rotate_left; (focus (intro w hSw; (try dsimp only at hSw); go_simp; (try with_reducible rfl); done)); (try simp only [Act.put, List.setIfInBounds_toArray, List.set_cons_zero, List.set_cons_succ])
    (refine takeH (i := 3) (v := ?_) (by decide +kernel) (by decide +kernel) (by kernel_rfl) (by rfl) (by exact fun _ _ _ h => h) (by rfl) ?_ (by assumption) ?_); rotate_left; (focus (intro w hSw; (try dsimp only at hSw); go_simp; (try with_reducible rfl); done)); (try simp only [Act.put, List.setIfInBounds_toArray, List.set_cons_zero, List.set_cons_succ])
    ((refine skipH (i := 4) (by decide +kernel) (by decide +kernel) (by kernel_rfl) (by rfl) (by exact fun _ _ _ h => h) (by rfl) (by assumption) ?_); (try simp only [Act.put, List.setIfInBounds_toArray, List.set_cons_zero, List.set_cons_succ]))
    ((refine skipH (i := 5) (by decide +kernel) (by decide +kernel) (by kernel_rfl) (by rfl) (by exact fun _ _ _ h => h) (by rfl) (by assumption) ?_); (try simp only [Act.put, List.setIfInBounds_toArray, List.set_cons_zero, List.set_cons_succ]))
    ((refine skipH (i := 6) (by decide +kernel) (by decide +kernel) (by kernel_rfl) (by rfl) (by exact fun _ _ _ h => h) (by rfl) (by assumption) ?_); (try simp only [Act.put, List.setIfInBounds_toArray, List.set_cons_zero, List.set_cons_succ]))
    ((refine skipH (i := 7) (by decide +kernel) (by decide +kernel) (by kernel_rfl) (by rfl) (by exact fun _ _ _ h => h) (by rfl) (by assumption) ?_); (try simp only [Act.put, List.setIfInBounds_toArray, List.set_cons_zero, List.set_cons_succ]))
    ((refine skipH (i := 8) (by decide +kernel) (by decide +kernel) (by kernel_rfl) (by rfl) (by exact fun _ _ _ h => h) (by rfl) (by assumption) ?_); (try simp only [Act.put, List.setIfInBounds_toArray, List.set_cons_zero, List.set_cons_succ]))
    ((refine skipH (i := 9) (by decide +kernel) (by decide +kernel) (by kernel_rfl) (by rfl) (by exact fun _ _ _ h => h) (by rfl) (by assumption) ?_); (try simp only [Act.put, List.setIfInBounds_toArray, List.set_cons_zero, List.set_cons_succ]))
    ((refine skipH (i := 10) (by decide +kernel) (by decide +kernel) (by kernel_rfl) (by rfl) (by exact fun _ _ _ h => h) (by rfl) (by assumption) ?_); (try simp only [Act.put, List.setIfInBounds_toArray, List.set_cons_zero, List.set_cons_succ]))
    ((refine skipH (i := 11) (by decide +kernel) (by decide +kernel) (by kernel_rfl) (by rfl) (by exact fun _ _ _ h => h) (by rfl) (by assumption) ?_); (try simp only [Act.put, List.setIfInBounds_toArray, List.set_cons_zero, List.set_cons_succ]))
    (refine takeH (i := 12) (v := ?_) (by decide +kernel) (by decide +kernel) (by kernel_rfl) (by rfl) (by exact fun _ _ _ h => h) (by rfl) ?_ (by assumption) ?_); rotate_left; (focus (intro w hSw; (try dsimp only at hSw); go_simp; (try with_reducible rfl); done)); (try simp only [Act.put, List.setIfInBounds_toArray, List.set_cons_zero, List.set_cons_succ])
    (refine takeH (i := 13) (v := ?_) (by decide +kernel) (by decide +kernel) (by kernel_rfl) (by rfl) (by exact fun _ _ _ h => h) (by rfl) ?_ (by assumption) ?_); rotate_left; (focus (intro w hSw; (try dsimp only at hSw); go_simp; (try with_reducible rfl); done)); (try simp only [Act.put, List.setIfInBounds_toArray, List.set_cons_zero, List.set_cons_succ])
    ((refine skipH (i := 14) (by decide +kernel) (by decide +kernel) (by kernel_rfl) (by rfl) (by exact fun _ _ _ h => h) (by rfl) (by assumption) ?_); (try simp only [Act.put, List.setIfInBounds_toArray, List.set_cons_zero, List.set_cons_succ]))
    ((refine skipH (i := 15) (by decide +kernel) (by decide +kernel) (by kernel_rfl) (by rfl) (by exact fun _ _ _ h => h) (by rfl) (by assumption) ?_); (try simp only [Act.put, List.setIfInBounds_toArray, List.set_cons_zero, List.set_cons_succ]))
    ((refine skipH (i := 16) (by decide +kernel) (by decide +kernel) (by kernel_rfl) (by rfl) (by exact fun _ _ _ h => h) (by rfl) (by assumption) ?_); (try simp only [Act.put, List.setIfInBounds_toArray, List.set_cons_zero, List.set_cons_succ]))
    ((refine skipH (i := 17) (by decide +kernel) (by decide +kernel) (by kernel_rfl) (by rfl) (by exact fun _ _ _ h => h) (by rfl) (by assumption) ?_); (try simp only [Act.put, List.setIfInBounds_toArray, List.set_cons_zero, List.set_cons_succ]))
    ((refine skipH (i := 18) (by decide +kernel) (by decide +kernel) (by kernel_rfl) (by rfl) (by exact fun _ _ _ h => h) (by rfl) (by assumption) ?_); (try simp only [Act.put, List.setIfInBounds_toArray, List.set_cons_zero, List.set_cons_succ]))
    ((refine skipH (i := 19) (by decide +kernel) (by decide +kernel) (by kernel_rfl) (by rfl) (by exact fun _ _ _ h => h) (by rfl) (by assumption) ?_); (try simp only [Act.put, List.setIfInBounds_toArray, List.set_cons_zero, List.set_cons_succ]))
    ((refine skipH (i := 20) (by decide +kernel) (by decide +kernel) (by kernel_rfl) (by rfl) (by exact fun _ _ _ h => h) (by rfl) (by assumption) ?_); (try simp only [Act.put, List.setIfInBounds_toArray, List.set_cons_zero, List.set_cons_succ]))
    ((refine skipH (i := 21) (by decide +kernel) (by decide +kernel) (by kernel_rfl) (by rfl) (by exact fun _ _ _ h => h) (by rfl) (by assumption) ?_); (try simp only [Act.put, List.setIfInBounds_toArray, List.set_cons_zero, List.set_cons_succ]))
    ((refine skipH (i := 22) (by decide +kernel) (by decide +kernel) (by kernel_rfl) (by rfl) (by exact fun _ _ _ h => h) (by rfl) (by assumption) ?_); (try simp only [Act.put, List.setIfInBounds_toArray, List.set_cons_zero, List.set_cons_succ]))
    ((refine skipH (i := 23) (by decide +kernel) (by decide +kernel) (by kernel_rfl) (by rfl) (by exact fun _ _ _ h => h) (by rfl) (by assumption) ?_); (try simp only [Act.put, List.setIfInBounds_toArray, List.set_cons_zero, List.set_cons_succ]))
    (refine takeH (i := 24) (v := ?_) (by decide +kernel) (by decide +kernel) (by kernel_rfl) (by rfl) (by exact fun _ _ _ h => h) (by rfl) ?_ (by assumption) ?_); rotate_left; (focus (intro w hSw; (try dsimp only at hSw); go_simp; (try with_reducible rfl); done)); (try simp only [Act.put, List.setIfInBounds_toArray, List.set_cons_zero, List.set_cons_succ])
    refine wpAnyH_done (by decide +kernel) ?_ _
    have F4 := HF2.out.step HB4.out
    have A4 := HOU.out.below HB4.out
    obtain ⟨bx, bf⟩ := F4.at 0 rfl
    obtain ⟨x0, x1, x2⟩ := (⟨bx 0 _ rfl, bx 1 _ rfl, bx 2 _ rfl⟩ : _ ∧ _ ∧ _)
    obtain ⟨d0, d1, d2⟩ := (⟨F4.at 1 rfl 0 _ rfl, F4.at 1 rfl 1 _ rfl, F4.at 1 rfl 2 _ rfl⟩ : _ ∧ _ ∧ _)
    have zD : w.heap.size + 1 < w4.heap.size := F4.le 0 rfl
    have zE : w.heap.size < w4.heap.size := F4.le 1 rfl
    have pcell := (HR0.out _ F4.below).2.2
    have k0 := A4.sn.c0
    have k1 := A4.sn.c1
    have k2 := A4.c2
    have kf := A4.fz
    simp only [Nat.zero_add] at k0 k1
    have n1 := A4.sn.n1
    have n2 := A4.sn.n2
    have n3 := A4.sn.n3
    obtain ⟨n1', n2', n3'⟩ : ¬ sg = pg ∧ ¬ B = pg ∧ ¬ B = sg := ⟨fun e => n1 e.symm, fun e => n2 e.symm, fun e => n3 e.symm⟩
    have nbB := A4.sn.nb0
    have nbp := (A4.sn.op.lt pg rfl).1
    have nbs := (A4.sn.os.lt sg rfl).1
    obtain ⟨q1, q2, q3, q4, q5, q6⟩ : ¬ w.heap.size = B ∧ ¬ w.heap.size = pg ∧ ¬ w.heap.size = sg ∧ ¬ w.heap.size + 1 = B ∧ ¬ w.heap.size + 1 = pg ∧ ¬ w.heap.size + 1 = sg := by omega
    obtain ⟨q7, q8, q9⟩ : ¬ pb = B ∧ ¬ pb = pg ∧ ¬ pb = sg := by omega
    have HF := Lib.hid F4
    have HA := Lib.hid A4
    clear F4 A4 bx HF2 HOU HSK B0 HB4 hb4 hHeld HR0 HCW
    have B1 := HF.out.below
    go_wp2
    refine bodyPost_ret (v := .tuple #[P.val ⟨pits, stores, pn⟩ (some ⟨pg, 0, none⟩) uc (some ⟨sg, 0, none⟩) vc, .int .i64 0, .bool false]) (by simp [results, Try.results57, go_sem, x0, x1, x2, bf, zD, P.val, P.cells]) rfl ?_
    refine ⟨?_, .inl ⟨HS.out, _, ⟨_, _, _, _⟩, _, rfl⟩⟩
    repeat (first | (with_reducible exact B1) | ((with_reducible refine Below.setCell ?_ ?_ _); rotate_left; (simp <;> omega)) | (with_reducible refine Below.drew ?_) | (with_reducible exact Below.trans B1 (below_draws _ _ _)))
  rw [hcw] at HW2
  have hk := canW_kinds hcw
  cases hhp : Fc.here r ⟨k, pl, c⟩
  · have HS := Lib.hid (show stepF r (⟨pits, stores, pn⟩, hand) ⟨k, pl, c⟩ = none by simp [stepF, hhp])
    have HCW := HW2
    have hB : 2 * r.pits ≤ pl ∨ pl = -1 ∧ r.stores = false := by
      simp only [Fc.here, Bool.or_eq_false_iff, Bool.and_eq_false_iff, decide_eq_false_iff_not] at hhp
      obtain ⟨⟨g5, g6⟩, g7, g8⟩ := hhp
      simp only at hk
      have g9 : ¬ (0 ≤ pl ∧ pl ≤ 2 * r.pits - 1) := fun e => by rw [inB_iff.2 e] at g7; cases g7
      rcases hk with ⟨h1 | h1, _⟩ | ⟨_, _, _, h2 | h2⟩
      · exact absurd h1 g5
      · exact absurd h1 g6
      · exact .inl (by omega)
      · rcases g8 with g8 | g8
        · exact absurd h2.1 g8
        · exact .inr ⟨h2.1, g8⟩
    clear hcw HW2 ai hk hhp
    rcases hB with hB | ⟨rfl, hst⟩
    · have hd1 : decide (2 * r.pits ≤ pl) = true := by simpa using hB
      have hd1' : ¬ pl < 2 * r.pits := by omega
      clear hB
      go_enter Try.func57, Try.ntmps57
      go_wp2_with fail
      refine HOW.out.mono ?_
      rintro e w1 ⟨ua, uc, va, vc, rfl, ho, hb1⟩
      try simp only [World.size_alloc] at ho
      obtain ⟨pg, rfl, hp1, hp2⟩ := own_lt_n ho.pits HLP.out.1
      obtain ⟨sg, rfl, hs1, hs2⟩ := own_lt_n ho.stores HLP.out.2.1
      have zA : w.heap.size < w1.heap.size := (F0.step hb1).le 1 rfl
      have zB : w.heap.size + 1 < w1.heap.size := (F0.step hb1).le 0 rfl
      have F2 := (F0.step hb1).step (below_alloc1 w1 (.cells #[.slice (some ⟨pg, 0, none⟩) pits.length uc, .slice (some ⟨sg, 0, none⟩) stores.length vc, .int .i64 pn] 30))
      have HO2 := OuP.start (base := w.heap.size + 1 + 1) ho (Nat.le_refl _) zB 30
      obtain ⟨B, hB⟩ : ∃ B, B = w1.heap.size := ⟨_, rfl⟩
      obtain ⟨W2, hW2⟩ : ∃ W, W = (w1.alloc (.cells #[.slice (some ⟨pg, 0, none⟩) pits.length uc, .slice (some ⟨sg, 0, none⟩) stores.length vc, .int .i64 pn] 30)) := ⟨_, rfl⟩
      simp only at HO2
      rw [← hB, ← hW2] at HO2
      rw [← hW2] at F2
      have HF2 := Lib.hid F2
      have HOU := Lib.hid HO2
      have zC : w.heap.size < W2.heap.size := F2.le 1 rfl
      have HSK : Hid (∀ W, Below W2.heap.size W2 W → (W.cell? ⟨w.heap.size, 0, none⟩ = some (.int .i64 k) ∧ W.cell? ⟨w.heap.size, 1, none⟩ = some (.int .i64 pl) ∧ W.cell? ⟨w.heap.size, 2, none⟩ = some (.int .i64 c) ∧ W.cell? ⟨rb, ro, none⟩ = some (.int .i64 r.pits) ∧ W.cell? ⟨rb, ro + 2, none⟩ = some (.bool r.stores))) := fun W hW => ⟨((bcell hW).1 _ _ zC).trans (HF2.out.at 1 rfl 0 _ rfl), ((bcell hW).1 _ _ zC).trans (HF2.out.at 1 rfl 1 _ rfl), ((bcell hW).1 _ _ zC).trans (HF2.out.at 1 rfl 2 _ rfl), (HR0.out _ (HF2.out.step hW).below).1, (HR0.out _ (HF2.out.step hW).below).2.1⟩
      have B0 : Hid (Below W2.heap.size W2 W2.drew) := (Below.refl _ _).drew
      clear ho hb1 F0 F2 HO2 hp1 hp2 hs1 hs2 zA zB HOW
      go_wp2_with fail
      try rw [← hW2]
      try simp only [← hB]
      clear hW2 hB
      refine heldH (S := fun W => W.cell? ⟨w.heap.size, 0, none⟩ = some (.int .i64 k) ∧ W.cell? ⟨w.heap.size, 1, none⟩ = some (.int .i64 pl) ∧ W.cell? ⟨w.heap.size, 2, none⟩ = some (.int .i64 c) ∧ W.cell? ⟨rb, ro, none⟩ = some (.int .i64 r.pits) ∧ W.cell? ⟨rb, ro + 2, none⟩ = some (.bool r.stores)) (n := 25) (listed := #[false, false, false, false, false, false, false, false, false, false, false, false, false, false, false, false, false, false, false, false, false, false, false, false, false]) (by kernel_rfl) (by rfl) (by rfl) ?_ (fun hHeld => ?_)
      (focus ((try dsimp only); (first | done | (((refine HSK.out _ ?_; first | (with_reducible exact HB4.out) | exact B0.out)); done))))
      (refine takeH (i := 0) (v := ?_) (by decide +kernel) (by decide +kernel) (by kernel_rfl) (by rfl) (by exact fun _ _ _ h => h) (by rfl) ?_ (by assumption) ?_); rotate_left; (focus (intro w hSw; (try dsimp only at hSw); go_simp; (try with_reducible rfl); done)); (try simp only [Act.put, List.setIfInBounds_toArray, List.set_cons_zero, List.set_cons_succ])
      refine nextH (i := 1) (by decide +kernel) (by rfl) (by rfl) (fun K hK => ?_)
      go_simp
      ((go_at_call 106; (refine (HCW.out _).mono ?_); (rintro e w4 ⟨rfl, hb4⟩); (have HB4 := Lib.hid (below_next B0.out hb4))))
      refine hK.out _ _ ?_ (fun hHeld' => ?_)
      (focus ((try dsimp only); (first | done | (((refine HSK.out _ ?_; first | (with_reducible exact HB4.out) | exact B0.out)); done))))
      clear hK K hHeld
      have hHeld := hHeld'
      clear hHeld'
      (try simp only [Act.put, List.setIfInBounds_toArray, List.set_cons_zero, List.set_cons_succ])
      (refine takeH (i := 2) (v := ?_) (by decide +kernel) (by decide +kernel) (by kernel_rfl) (by rfl) (by exact fun _ _ _ h => h) (by rfl) ?_ (by assumption) ?_); rotate_left; (focus (intro w hSw; (try dsimp only at hSw); go_simp; (try with_reducible rfl); done)); (try simp only [Act.put, List.setIfInBounds_toArray, List.set_cons_zero, List.set_cons_succ])
      (refine takeH (i := 3) (v := ?_) (by decide +kernel) (by decide +kernel) (by kernel_rfl) (by rfl) (by exact fun _ _ _ h => h) (by rfl) ?_ (by assumption) ?_); rotate_left; (focus (intro w hSw; (try dsimp only at hSw); go_simp; (try with_reducible rfl); done)); (try simp only [Act.put, List.setIfInBounds_toArray, List.set_cons_zero, List.set_cons_succ])
      (refine takeH (i := 4) (v := ?_) (by decide +kernel) (by decide +kernel) (by kernel_rfl) (by rfl) (by exact fun _ _ _ h => h) (by rfl) ?_ (by assumption) ?_); rotate_left; (focus (intro w hSw; (try dsimp only at hSw); go_simp; (try with_reducible rfl); done)); (try simp only [Act.put, List.setIfInBounds_toArray, List.set_cons_zero, List.set_cons_succ])
      (refine takeH (i := 5) (v := ?_) (by decide +kernel) (by decide +kernel) (by kernel_rfl) (by rfl) (by exact fun _ _ _ h => h) (by rfl) ?_ (by assumption) ?_); rotate_left; (focus (intro w hSw; (try dsimp only at hSw); go_simp; (try with_reducible rfl); done)); (try simp only [Act.put, List.setIfInBounds_toArray, List.set_cons_zero, List.set_cons_succ])
      (refine takeH (i := 6) (v := ?_) (by decide +kernel) (by decide +kernel) (by kernel_rfl) (by rfl) (by exact fun _ _ _ h => h) (by rfl) ?_ (by assumption) ?_); rotate_left; (focus (intro w hSw; (try dsimp only at hSw); go_simp; (try with_reducible rfl); done)); (try simp only [Act.put, List.setIfInBounds_toArray, List.set_cons_zero, List.set_cons_succ])
      (refine takeH (i := 7) (v := ?_) (by decide +kernel) (by decide +kernel) (by kernel_rfl) (by rfl) (by exact fun _ _ _ h => h) (by rfl) ?_ (by assumption) ?_); rotate_left; (focus (intro w hSw; (try dsimp only at hSw); go_simp; (try with_reducible rfl); done)); (try simp only [Act.put, List.setIfInBounds_toArray, List.set_cons_zero, List.set_cons_succ])
      (refine takeH (i := 8) (v := ?_) (by decide +kernel) (by decide +kernel) (by kernel_rfl) (by rfl) (by exact fun _ _ _ h => h) (by rfl) ?_ (by assumption) ?_); rotate_left; (focus (intro w hSw; (try dsimp only at hSw); go_simp; (try with_reducible rfl); done)); (try simp only [Act.put, List.setIfInBounds_toArray, List.set_cons_zero, List.set_cons_succ])
      (refine takeH (i := 9) (v := ?_) (by decide +kernel) (by decide +kernel) (by kernel_rfl) (by rfl) (by exact fun _ _ _ h => h) (by rfl) ?_ (by assumption) ?_); rotate_left; (focus (intro w hSw; (try dsimp only at hSw); go_simp; (try with_reducible rfl); done)); (try simp only [Act.put, List.setIfInBounds_toArray, List.set_cons_zero, List.set_cons_succ])
      (refine takeH (i := 10) (v := ?_) (by decide +kernel) (by decide +kernel) (by kernel_rfl) (by rfl) (by exact fun _ _ _ h => h) (by rfl) ?_ (by assumption) ?_); rotate_left; (focus (intro w hSw; (try dsimp only at hSw); go_simp; (try with_reducible rfl); done)); (try simp only [Act.put, List.setIfInBounds_toArray, List.set_cons_zero, List.set_cons_succ])
      (refine takeH (i := 11) (v := ?_) (by decide +kernel) (by decide +kernel) (by kernel_rfl) (by rfl) (by exact fun _ _ _ h => h) (by rfl) ?_ (by assumption) ?_); rotate_left; (focus (intro w hSw; (try dsimp only at hSw); go_simp; (try with_reducible rfl); done)); (try simp only [Act.put, List.setIfInBounds_toArray, List.set_cons_zero, List.set_cons_succ])
      (refine takeH (i := 12) (v := ?_) (by decide +kernel) (by decide +kernel) (by kernel_rfl) (by rfl) (by exact fun _ _ _ h => h) (by rfl) ?_ (by assumption) ?_); rotate_left; (focus (intro w hSw; (try dsimp only at hSw); go_simp; (try with_reducible rfl); done)); (try simp only [Act.put, List.setIfInBounds_toArray, List.set_cons_zero, List.set_cons_succ])
      (refine takeH (i := 13) (v := ?_) (by decide +kernel) (by decide +kernel) (by kernel_rfl) (by rfl) (by exact fun _ _ _ h => h) (by rfl) ?_ (by assumption) ?_); rotate_left; (focus (intro w hSw; (try dsimp only at hSw); go_simp; (try with_reducible rfl); done)); (try simp only [Act.put, List.setIfInBounds_toArray, List.set_cons_zero, List.set_cons_succ])
      ((refine skipH (i := 14) (by decide +kernel) (by decide +kernel) (by kernel_rfl) (by rfl) (by exact fun _ _ _ h => h) (by rfl) (by assumption) ?_); (try simp only [Act.put, List.setIfInBounds_toArray, List.set_cons_zero, List.set_cons_succ]))
      ((refine skipH (i := 15) (by decide +kernel) (by decide +kernel) (by kernel_rfl) (by rfl) (by exact fun _ _ _ h => h) (by rfl) (by assumption) ?_); (try simp only [Act.put, List.setIfInBounds_toArray, List.set_cons_zero, List.set_cons_succ]))
      ((refine skipH (i := 16) (by decide +kernel) (by decide +kernel) (by kernel_rfl) (by rfl) (by exact fun _ _ _ h => h) (by rfl) (by assumption) ?_); (try simp only [Act.put, List.setIfInBounds_toArray, List.set_cons_zero, List.set_cons_succ]))
      ((refine skipH (i := 17) (by decide +kernel) (by decide +kernel) (by kernel_rfl) (by rfl) (by exact fun _ _ _ h => h) (by rfl) (by assumption) ?_); (try simp only [Act.put, List.setIfInBounds_toArray, List.set_cons_zero, List.set_cons_succ]))
      ((refine skipH (i := 18) (by decide +kernel) (by decide +kernel) (by kernel_rfl) (by rfl) (by exact fun _ _ _ h => h) (by rfl) (by assumption) ?_); (try simp only [Act.put, List.setIfInBounds_toArray, List.set_cons_zero, List.set_cons_succ]))
      ((refine skipH (i := 19) (by decide +kernel) (by decide +kernel) (by kernel_rfl) (by rfl) (by exact fun _ _ _ h => h) (by rfl) (by assumption) ?_); (try simp only [Act.put, List.setIfInBounds_toArray, List.set_cons_zero, List.set_cons_succ]))
      ((refine skipH (i := 20) (by decide +kernel) (by decide +kernel) (by kernel_rfl) (by rfl) (by exact fun _ _ _ h => h) (by rfl) (by assumption) ?_); (try simp only [Act.put, List.setIfInBounds_toArray, List.set_cons_zero, List.set_cons_succ]))
      ((refine skipH (i := 21) (by decide +kernel) (by decide +kernel) (by kernel_rfl) (by rfl) (by exact fun _ _ _ h => h) (by rfl) (by assumption) ?_); (try simp only [Act.put, List.setIfInBounds_toArray, List.set_cons_zero, List.set_cons_succ]))
      ((refine skipH (i := 22) (by decide +kernel) (by decide +kernel) (by kernel_rfl) (by rfl) (by exact fun _ _ _ h => h) (by rfl) (by assumption) ?_); (try simp only [Act.put, List.setIfInBounds_toArray, List.set_cons_zero, List.set_cons_succ]))
      ((refine skipH (i := 23) (by decide +kernel) (by decide +kernel) (by kernel_rfl) (by rfl) (by exact fun _ _ _ h => h) (by rfl) (by assumption) ?_); (try simp only [Act.put, List.setIfInBounds_toArray, List.set_cons_zero, List.set_cons_succ]))
      (refine takeH (i := 24) (v := ?_) (by decide +kernel) (by decide +kernel) (by kernel_rfl) (by rfl) (by exact fun _ _ _ h => h) (by rfl) ?_ (by assumption) ?_); rotate_left; (focus (intro w hSw; (try dsimp only at hSw); go_simp; (try with_reducible rfl); done)); (try simp only [Act.put, List.setIfInBounds_toArray, List.set_cons_zero, List.set_cons_succ])
      refine wpAnyH_done (by decide +kernel) ?_ _
      have F4 := HF2.out.step HB4.out
      have A4 := HOU.out.below HB4.out
      obtain ⟨bx, bf⟩ := F4.at 0 rfl
      obtain ⟨x0, x1, x2⟩ := (⟨bx 0 _ rfl, bx 1 _ rfl, bx 2 _ rfl⟩ : _ ∧ _ ∧ _)
      obtain ⟨d0, d1, d2⟩ := (⟨F4.at 1 rfl 0 _ rfl, F4.at 1 rfl 1 _ rfl, F4.at 1 rfl 2 _ rfl⟩ : _ ∧ _ ∧ _)
      have zD : w.heap.size + 1 < w4.heap.size := F4.le 0 rfl
      have zE : w.heap.size < w4.heap.size := F4.le 1 rfl
      have pcell := (HR0.out _ F4.below).2.2
      have k0 := A4.sn.c0
      have k1 := A4.sn.c1
      have k2 := A4.c2
      have kf := A4.fz
      simp only [Nat.zero_add] at k0 k1
      have n1 := A4.sn.n1
      have n2 := A4.sn.n2
      have n3 := A4.sn.n3
      obtain ⟨n1', n2', n3'⟩ : ¬ sg = pg ∧ ¬ B = pg ∧ ¬ B = sg := ⟨fun e => n1 e.symm, fun e => n2 e.symm, fun e => n3 e.symm⟩
      have nbB := A4.sn.nb0
      have nbp := (A4.sn.op.lt pg rfl).1
      have nbs := (A4.sn.os.lt sg rfl).1
      obtain ⟨q1, q2, q3, q4, q5, q6⟩ : ¬ w.heap.size = B ∧ ¬ w.heap.size = pg ∧ ¬ w.heap.size = sg ∧ ¬ w.heap.size + 1 = B ∧ ¬ w.heap.size + 1 = pg ∧ ¬ w.heap.size + 1 = sg := by omega
      obtain ⟨q7, q8, q9⟩ : ¬ pb = B ∧ ¬ pb = pg ∧ ¬ pb = sg := by omega
      have HF := Lib.hid F4
      have HA := Lib.hid A4
      clear F4 A4 bx HF2 HOU HSK B0 HB4 hb4 hHeld HR0 HCW
      have B1 := HF.out.below
      go_wp2
      refine bodyPost_ret (v := .tuple #[P.val ⟨pits, stores, pn⟩ (some ⟨pg, 0, none⟩) uc (some ⟨sg, 0, none⟩) vc, .int .i64 0, .bool false]) (by simp [results, Try.results57, go_sem, x0, x1, x2, bf, zD, P.val, P.cells]) rfl ?_
      refine ⟨?_, .inl ⟨HS.out, _, ⟨_, _, _, _⟩, _, rfl⟩⟩
      repeat (first | (with_reducible exact B1) | ((with_reducible refine Below.setCell ?_ ?_ _); rotate_left; (simp <;> omega)) | (with_reducible refine Below.drew ?_) | (with_reducible exact Below.trans B1 (below_draws _ _ _)))
    · have hd1 : decide (2 * r.pits ≤ -1) = false := by simp; omega
      have hd1' : ¬ 2 * r.pits ≤ -1 := by omega
      have HST := Lib.hid hst
      go_enter Try.func57, Try.ntmps57
      go_wp2_with fail
      refine HOW.out.mono ?_
      rintro e w1 ⟨ua, uc, va, vc, rfl, ho, hb1⟩
      try simp only [World.size_alloc] at ho
      obtain ⟨pg, rfl, hp1, hp2⟩ := own_lt_n ho.pits HLP.out.1
      obtain ⟨sg, rfl, hs1, hs2⟩ := own_lt_n ho.stores HLP.out.2.1
      have zA : w.heap.size < w1.heap.size := (F0.step hb1).le 1 rfl
      have zB : w.heap.size + 1 < w1.heap.size := (F0.step hb1).le 0 rfl
      have F2 := (F0.step hb1).step (below_alloc1 w1 (.cells #[.slice (some ⟨pg, 0, none⟩) pits.length uc, .slice (some ⟨sg, 0, none⟩) stores.length vc, .int .i64 pn] 30))
      have HO2 := OuP.start (base := w.heap.size + 1 + 1) ho (Nat.le_refl _) zB 30
      obtain ⟨B, hB⟩ : ∃ B, B = w1.heap.size := ⟨_, rfl⟩
      obtain ⟨W2, hW2⟩ : ∃ W, W = (w1.alloc (.cells #[.slice (some ⟨pg, 0, none⟩) pits.length uc, .slice (some ⟨sg, 0, none⟩) stores.length vc, .int .i64 pn] 30)) := ⟨_, rfl⟩
      simp only at HO2
      rw [← hB, ← hW2] at HO2
      rw [← hW2] at F2
      have HF2 := Lib.hid F2
      have HOU := Lib.hid HO2
      have zC : w.heap.size < W2.heap.size := F2.le 1 rfl
      have HSK : Hid (∀ W, Below W2.heap.size W2 W → (W.cell? ⟨w.heap.size, 0, none⟩ = some (.int .i64 k) ∧ W.cell? ⟨w.heap.size, 1, none⟩ = some (.int .i64 (-1)) ∧ W.cell? ⟨w.heap.size, 2, none⟩ = some (.int .i64 c) ∧ W.cell? ⟨rb, ro, none⟩ = some (.int .i64 r.pits) ∧ W.cell? ⟨rb, ro + 2, none⟩ = some (.bool false))) := fun W hW => ⟨((bcell hW).1 _ _ zC).trans (HF2.out.at 1 rfl 0 _ rfl), ((bcell hW).1 _ _ zC).trans (HF2.out.at 1 rfl 1 _ rfl), ((bcell hW).1 _ _ zC).trans (HF2.out.at 1 rfl 2 _ rfl), (HR0.out _ (HF2.out.step hW).below).1, (HR0.out _ (HF2.out.step hW).below).2.1.trans (by rw [HST.out])⟩
      have B0 : Hid (Below W2.heap.size W2 W2.drew) := (Below.refl _ _).drew
      clear ho hb1 F0 F2 HO2 hp1 hp2 hs1 hs2 zA zB HOW
      go_wp2_with fail
      try rw [← hW2]
      try simp only [← hB]
      clear hW2 hB
      refine heldH (S := fun W => W.cell? ⟨w.heap.size, 0, none⟩ = some (.int .i64 k) ∧ W.cell? ⟨w.heap.size, 1, none⟩ = some (.int .i64 (-1)) ∧ W.cell? ⟨w.heap.size, 2, none⟩ = some (.int .i64 c) ∧ W.cell? ⟨rb, ro, none⟩ = some (.int .i64 r.pits) ∧ W.cell? ⟨rb, ro + 2, none⟩ = some (.bool false)) (n := 25) (listed := #[false, false, false, false, false, false, false, false, false, false, false, false, false, false, false, false, false, false, false, false, false, false, false, false, false]) (by kernel_rfl) (by rfl) (by rfl) ?_ (fun hHeld => ?_)
      (focus ((try dsimp only); (first | done | (((refine HSK.out _ ?_; first | (with_reducible exact HB4.out) | exact B0.out)); done))))
      (refine takeH (i := 0) (v := ?_) (by decide +kernel) (by decide +kernel) (by kernel_rfl) (by rfl) (by exact fun _ _ _ h => h) (by rfl) ?_ (by assumption) ?_); rotate_left; (focus (intro w hSw; (try dsimp only at hSw); go_simp; (try with_reducible rfl); done)); (try simp only [Act.put, List.setIfInBounds_toArray, List.set_cons_zero, List.set_cons_succ])
      refine nextH (i := 1) (by decide +kernel) (by rfl) (by rfl) (fun K hK => ?_)
      go_simp
      ((go_at_call 106; (refine (HCW.out _).mono ?_); (rintro e w4 ⟨rfl, hb4⟩); (have HB4 := Lib.hid (below_next B0.out hb4))))
      refine hK.out _ _ ?_ (fun hHeld' => ?_)
      (focus ((try dsimp only); (first | done | (((refine HSK.out _ ?_; first | (with_reducible exact HB4.out) | exact B0.out)); done))))
      clear hK K hHeld
      have hHeld := hHeld'
      clear hHeld'
      (try simp only [Act.put, List.setIfInBounds_toArray, List.set_cons_zero, List.set_cons_succ])
      (refine takeH (i := 2) (v := ?_) (by decide +kernel) (by decide +kernel) (by kernel_rfl) (by rfl) (by exact fun _ _ _ h => h) (by rfl) ?_ (by assumption) ?_); rotate_left; (focus (intro w hSw; (try dsimp only at hSw); go_simp; (try with_reducible rfl); done)); (try simp only [Act.put, List.setIfInBounds_toArray, List.set_cons_zero, List.set_cons_succ])
      (refine takeH (i := 3) (v := ?_) (by decide +kernel) (by decide +kernel) (by kernel_rfl) (by rfl) (by exact fun _ _ _ h => h) (by rfl) ?_ (by assumption) ?_); rotate_left; (focus (intro w hSw; (try dsimp only at hSw); go_simp; (try with_reducible rfl); done)); (try simp only [Act.put, List.setIfInBounds_toArray, List.set_cons_zero, List.set_cons_succ])
      (refine takeH (i := 4) (v := ?_) (by decide +kernel) (by decide +kernel) (by kernel_rfl) (by rfl) (by exact fun _ _ _ h => h) (by rfl) ?_ (by assumption) ?_); rotate_left; (focus (intro w hSw; (try dsimp only at hSw); go_simp; (try with_reducible rfl); done)); (try simp only [Act.put, List.setIfInBounds_toArray, List.set_cons_zero, List.set_cons_succ])
      (refine takeH (i := 5) (v := ?_) (by decide +kernel) (by decide +kernel) (by kernel_rfl) (by rfl) (by exact fun _ _ _ h => h) (by rfl) ?_ (by assumption) ?_); rotate_left; (focus (intro w hSw; (try dsimp only at hSw); go_simp; (try with_reducible rfl); done)); (try simp only [Act.put, List.setIfInBounds_toArray, List.set_cons_zero, List.set_cons_succ])
      (refine takeH (i := 6) (v := ?_) (by decide +kernel) (by decide +kernel) (by kernel_rfl) (by rfl) (by exact fun _ _ _ h => h) (by rfl) ?_ (by assumption) ?_); rotate_left; (focus (intro w hSw; (try dsimp only at hSw); go_simp; (try with_reducible rfl); done)); (try simp only [Act.put, List.setIfInBounds_toArray, List.set_cons_zero, List.set_cons_succ])
      (refine takeH (i := 7) (v := ?_) (by decide +kernel) (by decide +kernel) (by kernel_rfl) (by rfl) (by exact fun _ _ _ h => h) (by rfl) ?_ (by assumption) ?_); rotate_left; (focus (intro w hSw; (try dsimp only at hSw); go_simp; (try with_reducible rfl); done)); (try simp only [Act.put, List.setIfInBounds_toArray, List.set_cons_zero, List.set_cons_succ])
      (refine takeH (i := 8) (v := ?_) (by decide +kernel) (by decide +kernel) (by kernel_rfl) (by rfl) (by exact fun _ _ _ h => h) (by rfl) ?_ (by assumption) ?_); rotate_left; (focus (intro w hSw; (try dsimp only at hSw); go_simp; (try with_reducible rfl); done)); (try simp only [Act.put, List.setIfInBounds_toArray, List.set_cons_zero, List.set_cons_succ])
      (refine takeH (i := 9) (v := ?_) (by decide +kernel) (by decide +kernel) (by kernel_rfl) (by rfl) (by exact fun _ _ _ h => h) (by rfl) ?_ (by assumption) ?_); rotate_left; (focus (intro w hSw; (try dsimp only at hSw); go_simp; (try with_reducible rfl); done)); (try simp only [Act.put, List.setIfInBounds_toArray, List.set_cons_zero, List.set_cons_succ])
      (refine takeH (i := 10) (v := ?_) (by decide +kernel) (by decide +kernel) (by kernel_rfl) (by rfl) (by exact fun _ _ _ h => h) (by rfl) ?_ (by assumption) ?_); rotate_left; (focus (intro w hSw; (try dsimp only at hSw); go_simp; (try with_reducible rfl); done)); (try simp only [Act.put, List.setIfInBounds_toArray, List.set_cons_zero, List.set_cons_succ])
      (refine takeH (i := 11) (v := ?_) (by decide +kernel) (by decide +kernel) (by kernel_rfl) (by rfl) (by exact fun _ _ _ h => h) (by rfl) ?_ (by assumption) ?_); rotate_left; (focus (intro w hSw; (try dsimp only at hSw); go_simp; (try with_reducible rfl); done)); (try simp only [Act.put, List.setIfInBounds_toArray, List.set_cons_zero, List.set_cons_succ])
      (refine takeH (i := 12) (v := ?_) (by decide +kernel) (by decide +kernel) (by kernel_rfl) (by rfl) (by exact fun _ _ _ h => h) (by rfl) ?_ (by assumption) ?_); rotate_left; (focus (intro w hSw; (try dsimp only at hSw); go_simp; (try with_reducible rfl); done)); (try simp only [Act.put, List.setIfInBounds_toArray, List.set_cons_zero, List.set_cons_succ])
      (refine takeH (i := 13) (v := ?_) (by decide +kernel) (by decide +kernel) (by kernel_rfl) (by rfl) (by exact fun _ _ _ h => h) (by rfl) ?_ (by assumption) ?_); rotate_left; (focus (intro w hSw; (try dsimp only at hSw); go_simp; (try with_reducible rfl); done)); (try simp only [Act.put, List.setIfInBounds_toArray, List.set_cons_zero, List.set_cons_succ])
      (refine takeH (i := 14) (v := ?_) (by decide +kernel) (by decide +kernel) (by kernel_rfl) (by rfl) (by exact fun _ _ _ h => h) (by rfl) ?_ (by assumption) ?_); rotate_left; (focus (intro w hSw; (try dsimp only at hSw); go_simp; (try with_reducible rfl); done)); (try simp only [Act.put, List.setIfInBounds_toArray, List.set_cons_zero, List.set_cons_succ])
      (refine takeH (i := 15) (v := ?_) (by decide +kernel) (by decide +kernel) (by kernel_rfl) (by rfl) (by exact fun _ _ _ h => h) (by rfl) ?_ (by assumption) ?_); rotate_left; (focus (intro w hSw; (try dsimp only at hSw); go_simp; (try with_reducible rfl); done)); (try simp only [Act.put, List.setIfInBounds_toArray, List.set_cons_zero, List.set_cons_succ])
      (refine takeH (i := 16) (v := ?_) (by decide +kernel) (by decide +kernel) (by kernel_rfl) (by rfl) (by exact fun _ _ _ h => h) (by rfl) ?_ (by assumption) ?_); rotate_left; (focus (intro w hSw; (try dsimp only at hSw); go_simp; (try with_reducible rfl); done)); (try simp only [Act.put, List.setIfInBounds_toArray, List.set_cons_zero, List.set_cons_succ])
      (refine takeH (i := 17) (v := ?_) (by decide +kernel) (by decide +kernel) (by kernel_rfl) (by rfl) (by exact fun _ _ _ h => h) (by rfl) ?_ (by assumption) ?_); rotate_left; (focus (intro w hSw; (try dsimp only at hSw); go_simp; (try with_reducible rfl); done)); (try simp only [Act.put, List.setIfInBounds_toArray, List.set_cons_zero, List.set_cons_succ])
      (refine takeH (i := 18) (v := ?_) (by decide +kernel) (by decide +kernel) (by kernel_rfl) (by rfl) (by exact fun _ _ _ h => h) (by rfl) ?_ (by assumption) ?_); rotate_left; (focus (intro w hSw; (try dsimp only at hSw); go_simp; (try with_reducible rfl); done)); (try simp only [Act.put, List.setIfInBounds_toArray, List.set_cons_zero, List.set_cons_succ])
      (refine takeH (i := 19) (v := ?_) (by decide +kernel) (by decide +kernel) (by kernel_rfl) (by rfl) (by exact fun _ _ _ h => h) (by rfl) ?_ (by assumption) ?_); rotate_left; (focus (intro w hSw; (try dsimp only at hSw); go_simp; (try with_reducible rfl); done)); (try simp only [Act.put, List.setIfInBounds_toArray, List.set_cons_zero, List.set_cons_succ])
      (refine takeH (i := 20) (v := ?_) (by decide +kernel) (by decide +kernel) (by kernel_rfl) (by rfl) (by exact fun _ _ _ h => h) (by rfl) ?_ (by assumption) ?_); rotate_left; (focus (intro w hSw; (try dsimp only at hSw); go_simp; (try with_reducible rfl); done)); (try simp only [Act.put, List.setIfInBounds_toArray, List.set_cons_zero, List.set_cons_succ])
      (refine takeH (i := 21) (v := ?_) (by decide +kernel) (by decide +kernel) (by kernel_rfl) (by rfl) (by exact fun _ _ _ h => h) (by rfl) ?_ (by assumption) ?_); rotate_left; (focus (intro w hSw; (try dsimp only at hSw); go_simp; (try with_reducible rfl); done)); (try simp only [Act.put, List.setIfInBounds_toArray, List.set_cons_zero, List.set_cons_succ])
      (refine takeH (i := 22) (v := ?_) (by decide +kernel) (by decide +kernel) (by kernel_rfl) (by rfl) (by exact fun _ _ _ h => h) (by rfl) ?_ (by assumption) ?_); rotate_left; (focus (intro w hSw; (try dsimp only at hSw); go_simp; (try with_reducible rfl); done)); (try simp only [Act.put, List.setIfInBounds_toArray, List.set_cons_zero, List.set_cons_succ])
      (refine takeH (i := 23) (v := ?_) (by decide +kernel) (by decide +kernel) (by kernel_rfl) (by rfl) (by exact fun _ _ _ h => h) (by rfl) ?_ (by assumption) ?_); rotate_left; (focus (intro w hSw; (try dsimp only at hSw); go_simp; (try with_reducible rfl); done)); (try simp only [Act.put, List.setIfInBounds_toArray, List.set_cons_zero, List.set_cons_succ])
      (refine takeH (i := 24) (v := ?_) (by decide +kernel) (by decide +kernel) (by kernel_rfl) (by rfl) (by exact fun _ _ _ h => h) (by rfl) ?_ (by assumption) ?_); rotate_left; (focus (intro w hSw; (try dsimp only at hSw); go_simp; (try with_reducible rfl); done)); (try simp only [Act.put, List.setIfInBounds_toArray, List.set_cons_zero, List.set_cons_succ])
      refine wpAnyH_done (by decide +kernel) ?_ _
      have F4 := HF2.out.step HB4.out
      have A4 := HOU.out.below HB4.out
      obtain ⟨bx, bf⟩ := F4.at 0 rfl
      obtain ⟨x0, x1, x2⟩ := (⟨bx 0 _ rfl, bx 1 _ rfl, bx 2 _ rfl⟩ : _ ∧ _ ∧ _)
      obtain ⟨d0, d1, d2⟩ := (⟨F4.at 1 rfl 0 _ rfl, F4.at 1 rfl 1 _ rfl, F4.at 1 rfl 2 _ rfl⟩ : _ ∧ _ ∧ _)
      have zD : w.heap.size + 1 < w4.heap.size := F4.le 0 rfl
      have zE : w.heap.size < w4.heap.size := F4.le 1 rfl
      have pcell := (HR0.out _ F4.below).2.2
      have k0 := A4.sn.c0
      have k1 := A4.sn.c1
      have k2 := A4.c2
      have kf := A4.fz
      simp only [Nat.zero_add] at k0 k1
      have n1 := A4.sn.n1
      have n2 := A4.sn.n2
      have n3 := A4.sn.n3
      obtain ⟨n1', n2', n3'⟩ : ¬ sg = pg ∧ ¬ B = pg ∧ ¬ B = sg := ⟨fun e => n1 e.symm, fun e => n2 e.symm, fun e => n3 e.symm⟩
      have nbB := A4.sn.nb0
      have nbp := (A4.sn.op.lt pg rfl).1
      have nbs := (A4.sn.os.lt sg rfl).1
      obtain ⟨q1, q2, q3, q4, q5, q6⟩ : ¬ w.heap.size = B ∧ ¬ w.heap.size = pg ∧ ¬ w.heap.size = sg ∧ ¬ w.heap.size + 1 = B ∧ ¬ w.heap.size + 1 = pg ∧ ¬ w.heap.size + 1 = sg := by omega
      obtain ⟨q7, q8, q9⟩ : ¬ pb = B ∧ ¬ pb = pg ∧ ¬ pb = sg := by omega
      have HF := Lib.hid F4
      have HA := Lib.hid A4
      clear F4 A4 bx HF2 HOU HSK B0 HB4 hb4 hHeld HR0 HCW
      have B1 := HF.out.below
      go_wp2
      refine bodyPost_ret (v := .tuple #[P.val ⟨pits, stores, pn⟩ (some ⟨pg, 0, none⟩) uc (some ⟨sg, 0, none⟩) vc, .int .i64 0, .bool false]) (by simp [results, Try.results57, go_sem, x0, x1, x2, bf, zD, P.val, P.cells]) rfl ?_
      refine ⟨?_, .inl ⟨HS.out, _, ⟨_, _, _, _⟩, _, rfl⟩⟩
      repeat (first | (with_reducible exact B1) | ((with_reducible refine Below.setCell ?_ ?_ _); rotate_left; (simp <;> omega)) | (with_reducible refine Below.drew ?_) | (with_reducible exact Below.trans B1 (below_draws _ _ _)))
  have HCW := HW2
  have hlp := ai.lp
  have hls := ai.ls
  have h0 := ai.h0
  have h1 := ai.h1
  have hbp := ai.bp
  have hbs := ai.bs
  simp only at hlp hls h0 h1 hbp hbs hk
  have hST : stepF r (⟨pits, stores, pn⟩, hand) ⟨k, pl, c⟩ = (if k = 2 then
    if hand < c then none
    else if pl < 0 then some (⟨pits, addAt stores pn c, pn⟩, hand - c)
    else some (⟨addAt pits pl c, stores, pn⟩, hand - c)
  else if ¬ hand = 0 then none
  else if k = 1 then (if pits.getD pl.toNat 0 = c then some (⟨pits.set pl.toNat 0, stores, pn⟩, c) else none)
  else if k = 3 then (if pits.getD pl.toNat 0 = c then some (⟨pits.set pl.toNat 0, addAt stores pn c, pn⟩, 0) else none)
  else if k = 6 then some (⟨pits, stores, 1 - pn⟩, 0)
  else some (⟨pits, stores, pn⟩, 0)) := by
    simp only [stepF, hcw, hhp, Bool.and_self, Bool.true_eq_false, if_false]
  have hHP : k = 5 ∨ k = 6 ∨ (0 ≤ pl ∧ pl < pits.length) ∨ pl = -1 ∧ r.stores = true := by
    simp only [Fc.here, Bool.or_eq_true, Bool.and_eq_true, decide_eq_true_eq] at hhp
    rcases hhp with (h | h) | (h | h)
    · exact .inl h
    · exact .inr (.inl h)
    · have h := inB_iff.1 h
      exact .inr (.inr (.inl ⟨h.1, by omega⟩))
    · exact .inr (.inr (.inr h))
  clear hcw hhp ai HW2
  obtain ⟨y, hy⟩ : ∃ y, y = stores.getD pn 0 := ⟨_, rfl⟩
  have hsl : pn < stores.length := by omega
  have hyb : 0 ≤ y ∧ y ≤ T := by rw [hy, List.getD_eq_getElem?_getD, List.getElem?_eq_getElem hsl]; exact hbs _ (List.getElem_mem hsl)
  obtain ⟨y0, yT⟩ := hyb
  have hadd : addAt stores pn c = stores.set pn (y + c) := by rw [hy]; simp [addAt]
  rw [hadd] at hST
  have hy' : stores[pn]? = some y := by rw [hy]; simp [hsl]
  have HY := Lib.hid hy'
  have HSL := Lib.hid hls
  clear hadd hy hy' hbs hls
  have hslI : (pn : Int) < (stores.length : Int) := by omega
  by_cases k2 : k = 2
  · subst k2
    have hc : 1 ≤ c ∧ c ≤ 96 := by rcases hk with ⟨h3, _⟩ | ⟨_, h3, h4, _⟩ <;> omega
    obtain ⟨hc1, hc9⟩ := hc
    rw [if_pos rfl] at hST
    clear hk
    have hHP : pl = -1 ∧ r.stores = true ∨ ∃ x : Nat, pl = (x : Int) ∧ x < pits.length ∧ (x : Int) < 2 * r.pits := by
      rcases hHP with h | h | h | h
      · omega
      · omega
      · exact .inr ⟨pl.toNat, by omega, by omega, by omega⟩
      · exact .inl h
    clear hlp
    rcases hHP with ⟨rfl, hst⟩ | ⟨x, rfl, hxl, hx2⟩
    · have hd1 : decide (2 * r.pits ≤ -1) = false := by simp; omega
      have hd1' : ¬ 2 * r.pits ≤ -1 := by omega
      have HST := Lib.hid hst
      clear hbp hst
      by_cases hlt : hand < c
      · have HS := Lib.hid (hST.trans (if_pos hlt))
        clear hST
        go_enter Try.func57, Try.ntmps57
        go_wp2_with fail
        refine HOW.out.mono ?_
        rintro e w1 ⟨ua, uc, va, vc, rfl, ho, hb1⟩
        try simp only [World.size_alloc] at ho
        obtain ⟨pg, rfl, hp1, hp2⟩ := own_lt_n ho.pits HLP.out.1
        obtain ⟨sg, rfl, hs1, hs2⟩ := own_lt_n ho.stores HLP.out.2.1
        have zA : w.heap.size < w1.heap.size := (F0.step hb1).le 1 rfl
        have zB : w.heap.size + 1 < w1.heap.size := (F0.step hb1).le 0 rfl
        have F2 := (F0.step hb1).step (below_alloc1 w1 (.cells #[.slice (some ⟨pg, 0, none⟩) pits.length uc, .slice (some ⟨sg, 0, none⟩) stores.length vc, .int .i64 pn] 30))
        have HO2 := OuP.start (base := w.heap.size + 1 + 1) ho (Nat.le_refl _) zB 30
        obtain ⟨B, hB⟩ : ∃ B, B = w1.heap.size := ⟨_, rfl⟩
        obtain ⟨W2, hW2⟩ : ∃ W, W = (w1.alloc (.cells #[.slice (some ⟨pg, 0, none⟩) pits.length uc, .slice (some ⟨sg, 0, none⟩) stores.length vc, .int .i64 pn] 30)) := ⟨_, rfl⟩
        simp only at HO2
        rw [← hB, ← hW2] at HO2
        rw [← hW2] at F2
        have HF2 := Lib.hid F2
        have HOU := Lib.hid HO2
        have zC : w.heap.size < W2.heap.size := F2.le 1 rfl
        have HSK : Hid (∀ W, Below W2.heap.size W2 W → (W.cell? ⟨w.heap.size, 0, none⟩ = some (.int .i64 2) ∧ W.cell? ⟨w.heap.size, 1, none⟩ = some (.int .i64 (-1)) ∧ W.cell? ⟨w.heap.size, 2, none⟩ = some (.int .i64 c) ∧ W.cell? ⟨rb, ro, none⟩ = some (.int .i64 r.pits) ∧ W.cell? ⟨rb, ro + 2, none⟩ = some (.bool true))) := fun W hW => ⟨((bcell hW).1 _ _ zC).trans (HF2.out.at 1 rfl 0 _ rfl), ((bcell hW).1 _ _ zC).trans (HF2.out.at 1 rfl 1 _ rfl), ((bcell hW).1 _ _ zC).trans (HF2.out.at 1 rfl 2 _ rfl), (HR0.out _ (HF2.out.step hW).below).1, (HR0.out _ (HF2.out.step hW).below).2.1.trans (by rw [HST.out])⟩
        have B0 : Hid (Below W2.heap.size W2 W2.drew) := (Below.refl _ _).drew
        clear ho hb1 F0 F2 HO2 hp1 hp2 hs1 hs2 zA zB HOW
        go_wp2_with fail
        try rw [← hW2]
        try simp only [← hB]
        clear hW2 hB
        refine heldH (S := fun W => W.cell? ⟨w.heap.size, 0, none⟩ = some (.int .i64 2) ∧ W.cell? ⟨w.heap.size, 1, none⟩ = some (.int .i64 (-1)) ∧ W.cell? ⟨w.heap.size, 2, none⟩ = some (.int .i64 c) ∧ W.cell? ⟨rb, ro, none⟩ = some (.int .i64 r.pits) ∧ W.cell? ⟨rb, ro + 2, none⟩ = some (.bool true)) (n := 25) (listed := #[false, false, false, false, false, false, false, false, false, false, false, false, false, false, false, false, false, false, false, false, false, false, false, false, false]) (by kernel_rfl) (by rfl) (by rfl) ?_ (fun hHeld => ?_)
        (focus ((try dsimp only); (first | done | (((refine HSK.out _ ?_; first | (with_reducible exact HB4.out) | exact B0.out)); done))))
        (refine takeH (i := 0) (v := ?_) (by decide +kernel) (by decide +kernel) (by kernel_rfl) (by rfl) (by exact fun _ _ _ h => h) (by rfl) ?_ (by assumption) ?_); rotate_left; (focus (intro w hSw; (try dsimp only at hSw); go_simp; (try with_reducible rfl); done)); (try simp only [Act.put, List.setIfInBounds_toArray, List.set_cons_zero, List.set_cons_succ])
        refine nextH (i := 1) (by decide +kernel) (by rfl) (by rfl) (fun K hK => ?_)
        go_simp
        ((go_at_call 106; (refine (HCW.out _).mono ?_); (rintro e w4 ⟨rfl, hb4⟩); (have HB4 := Lib.hid (below_next B0.out hb4))))
        refine hK.out _ _ ?_ (fun hHeld' => ?_)
        (focus ((try dsimp only); (first | done | (((refine HSK.out _ ?_; first | (with_reducible exact HB4.out) | exact B0.out)); done))))
        clear hK K hHeld
        have hHeld := hHeld'
        clear hHeld'
        (try simp only [Act.put, List.setIfInBounds_toArray, List.set_cons_zero, List.set_cons_succ])
        (refine takeH (i := 2) (v := ?_) (by decide +kernel) (by decide +kernel) (by kernel_rfl) (by rfl) (by exact fun _ _ _ h => h) (by rfl) ?_ (by assumption) ?_); rotate_left; (focus (intro w hSw; (try dsimp only at hSw); go_simp; (try with_reducible rfl); done)); (try simp only [Act.put, List.setIfInBounds_toArray, List.set_cons_zero, List.set_cons_succ])
        (refine takeH (i := 3) (v := ?_) (by decide +kernel) (by decide +kernel) (by kernel_rfl) (by rfl) (by exact fun _ _ _ h => h) (by rfl) ?_ (by assumption) ?_); rotate_left; (focus (intro w hSw; (try dsimp only at hSw); go_simp; (try with_reducible rfl); done)); (try simp only [Act.put, List.setIfInBounds_toArray, List.set_cons_zero, List.set_cons_succ])
        (refine takeH (i := 4) (v := ?_) (by decide +kernel) (by decide +kernel) (by kernel_rfl) (by rfl) (by exact fun _ _ _ h => h) (by rfl) ?_ (by assumption) ?_); rotate_left; (focus (intro w hSw; (try dsimp only at hSw); go_simp; (try with_reducible rfl); done)); (try simp only [Act.put, List.setIfInBounds_toArray, List.set_cons_zero, List.set_cons_succ])
        (refine takeH (i := 5) (v := ?_) (by decide +kernel) (by decide +kernel) (by kernel_rfl) (by rfl) (by exact fun _ _ _ h => h) (by rfl) ?_ (by assumption) ?_); rotate_left; (focus (intro w hSw; (try dsimp only at hSw); go_simp; (try with_reducible rfl); done)); (try simp only [Act.put, List.setIfInBounds_toArray, List.set_cons_zero, List.set_cons_succ])
        (refine takeH (i := 6) (v := ?_) (by decide +kernel) (by decide +kernel) (by kernel_rfl) (by rfl) (by exact fun _ _ _ h => h) (by rfl) ?_ (by assumption) ?_); rotate_left; (focus (intro w hSw; (try dsimp only at hSw); go_simp; (try with_reducible rfl); done)); (try simp only [Act.put, List.setIfInBounds_toArray, List.set_cons_zero, List.set_cons_succ])
        (refine takeH (i := 7) (v := ?_) (by decide +kernel) (by decide +kernel) (by kernel_rfl) (by rfl) (by exact fun _ _ _ h => h) (by rfl) ?_ (by assumption) ?_); rotate_left; (focus (intro w hSw; (try dsimp only at hSw); go_simp; (try with_reducible rfl); done)); (try simp only [Act.put, List.setIfInBounds_toArray, List.set_cons_zero, List.set_cons_succ])
        (refine takeH (i := 8) (v := ?_) (by decide +kernel) (by decide +kernel) (by kernel_rfl) (by rfl) (by exact fun _ _ _ h => h) (by rfl) ?_ (by assumption) ?_); rotate_left; (focus (intro w hSw; (try dsimp only at hSw); go_simp; (try with_reducible rfl); done)); (try simp only [Act.put, List.setIfInBounds_toArray, List.set_cons_zero, List.set_cons_succ])
        (refine takeH (i := 9) (v := ?_) (by decide +kernel) (by decide +kernel) (by kernel_rfl) (by rfl) (by exact fun _ _ _ h => h) (by rfl) ?_ (by assumption) ?_); rotate_left; (focus (intro w hSw; (try dsimp only at hSw); go_simp; (try with_reducible rfl); done)); (try simp only [Act.put, List.setIfInBounds_toArray, List.set_cons_zero, List.set_cons_succ])
        (refine takeH (i := 10) (v := ?_) (by decide +kernel) (by decide +kernel) (by kernel_rfl) (by rfl) (by exact fun _ _ _ h => h) (by rfl) ?_ (by assumption) ?_); rotate_left; (focus (intro w hSw; (try dsimp only at hSw); go_simp; (try with_reducible rfl); done)); (try simp only [Act.put, List.setIfInBounds_toArray, List.set_cons_zero, List.set_cons_succ])
        (refine takeH (i := 11) (v := ?_) (by decide +kernel) (by decide +kernel) (by kernel_rfl) (by rfl) (by exact fun _ _ _ h => h) (by rfl) ?_ (by assumption) ?_); rotate_left; (focus (intro w hSw; (try dsimp only at hSw); go_simp; (try with_reducible rfl); done)); (try simp only [Act.put, List.setIfInBounds_toArray, List.set_cons_zero, List.set_cons_succ])
        (refine takeH (i := 12) (v := ?_) (by decide +kernel) (by decide +kernel) (by kernel_rfl) (by rfl) (by exact fun _ _ _ h => h) (by rfl) ?_ (by assumption) ?_); rotate_left; (focus (intro w hSw; (try dsimp only at hSw); go_simp; (try with_reducible rfl); done)); (try simp only [Act.put, List.setIfInBounds_toArray, List.set_cons_zero, List.set_cons_succ])
        (refine takeH (i := 13) (v := ?_) (by decide +kernel) (by decide +kernel) (by kernel_rfl) (by rfl) (by exact fun _ _ _ h => h) (by rfl) ?_ (by assumption) ?_); rotate_left; (focus (intro w hSw; (try dsimp only at hSw); go_simp; (try with_reducible rfl); done)); (try simp only [Act.put, List.setIfInBounds_toArray, List.set_cons_zero, List.set_cons_succ])
        (refine takeH (i := 14) (v := ?_) (by decide +kernel) (by decide +kernel) (by kernel_rfl) (by rfl) (by exact fun _ _ _ h => h) (by rfl) ?_ (by assumption) ?_); rotate_left; (focus (intro w hSw; (try dsimp only at hSw); go_simp; (try with_reducible rfl); done)); (try simp only [Act.put, List.setIfInBounds_toArray, List.set_cons_zero, List.set_cons_succ])
        (refine takeH (i := 15) (v := ?_) (by decide +kernel) (by decide +kernel) (by kernel_rfl) (by rfl) (by exact fun _ _ _ h => h) (by rfl) ?_ (by assumption) ?_); rotate_left; (focus (intro w hSw; (try dsimp only at hSw); go_simp; (try with_reducible rfl); done)); (try simp only [Act.put, List.setIfInBounds_toArray, List.set_cons_zero, List.set_cons_succ])
        (refine takeH (i := 16) (v := ?_) (by decide +kernel) (by decide +kernel) (by kernel_rfl) (by rfl) (by exact fun _ _ _ h => h) (by rfl) ?_ (by assumption) ?_); rotate_left; (focus (intro w hSw; (try dsimp only at hSw); go_simp; (try with_reducible rfl); done)); (try simp only [Act.put, List.setIfInBounds_toArray, List.set_cons_zero, List.set_cons_succ])
        (refine takeH (i := 17) (v := ?_) (by decide +kernel) (by decide +kernel) (by kernel_rfl) (by rfl) (by exact fun _ _ _ h => h) (by rfl) ?_ (by assumption) ?_); rotate_left; (focus (intro w hSw; (try dsimp only at hSw); go_simp; (try with_reducible rfl); done)); (try simp only [Act.put, List.setIfInBounds_toArray, List.set_cons_zero, List.set_cons_succ])
        (refine takeH (i := 18) (v := ?_) (by decide +kernel) (by decide +kernel) (by kernel_rfl) (by rfl) (by exact fun _ _ _ h => h) (by rfl) ?_ (by assumption) ?_); rotate_left; (focus (intro w hSw; (try dsimp only at hSw); go_simp; (try with_reducible rfl); done)); (try simp only [Act.put, List.setIfInBounds_toArray, List.set_cons_zero, List.set_cons_succ])
        (refine takeH (i := 19) (v := ?_) (by decide +kernel) (by decide +kernel) (by kernel_rfl) (by rfl) (by exact fun _ _ _ h => h) (by rfl) ?_ (by assumption) ?_); rotate_left; (focus (intro w hSw; (try dsimp only at hSw); go_simp; (try with_reducible rfl); done)); (try simp only [Act.put, List.setIfInBounds_toArray, List.set_cons_zero, List.set_cons_succ])
        (refine takeH (i := 20) (v := ?_) (by decide +kernel) (by decide +kernel) (by kernel_rfl) (by rfl) (by exact fun _ _ _ h => h) (by rfl) ?_ (by assumption) ?_); rotate_left; (focus (intro w hSw; (try dsimp only at hSw); go_simp; (try with_reducible rfl); done)); (try simp only [Act.put, List.setIfInBounds_toArray, List.set_cons_zero, List.set_cons_succ])
        (refine takeH (i := 21) (v := ?_) (by decide +kernel) (by decide +kernel) (by kernel_rfl) (by rfl) (by exact fun _ _ _ h => h) (by rfl) ?_ (by assumption) ?_); rotate_left; (focus (intro w hSw; (try dsimp only at hSw); go_simp; (try with_reducible rfl); done)); (try simp only [Act.put, List.setIfInBounds_toArray, List.set_cons_zero, List.set_cons_succ])
        (refine takeH (i := 22) (v := ?_) (by decide +kernel) (by decide +kernel) (by kernel_rfl) (by rfl) (by exact fun _ _ _ h => h) (by rfl) ?_ (by assumption) ?_); rotate_left; (focus (intro w hSw; (try dsimp only at hSw); go_simp; (try with_reducible rfl); done)); (try simp only [Act.put, List.setIfInBounds_toArray, List.set_cons_zero, List.set_cons_succ])
        (refine takeH (i := 23) (v := ?_) (by decide +kernel) (by decide +kernel) (by kernel_rfl) (by rfl) (by exact fun _ _ _ h => h) (by rfl) ?_ (by assumption) ?_); rotate_left; (focus (intro w hSw; (try dsimp only at hSw); go_simp; (try with_reducible rfl); done)); (try simp only [Act.put, List.setIfInBounds_toArray, List.set_cons_zero, List.set_cons_succ])
        (refine takeH (i := 24) (v := ?_) (by decide +kernel) (by decide +kernel) (by kernel_rfl) (by rfl) (by exact fun _ _ _ h => h) (by rfl) ?_ (by assumption) ?_); rotate_left; (focus (intro w hSw; (try dsimp only at hSw); go_simp; (try with_reducible rfl); done)); (try simp only [Act.put, List.setIfInBounds_toArray, List.set_cons_zero, List.set_cons_succ])
        refine wpAnyH_done (by decide +kernel) ?_ _
        have F4 := HF2.out.step HB4.out
        have A4 := HOU.out.below HB4.out
        obtain ⟨bx, bf⟩ := F4.at 0 rfl
        obtain ⟨x0, x1, x2⟩ := (⟨bx 0 _ rfl, bx 1 _ rfl, bx 2 _ rfl⟩ : _ ∧ _ ∧ _)
        obtain ⟨d0, d1, d2⟩ := (⟨F4.at 1 rfl 0 _ rfl, F4.at 1 rfl 1 _ rfl, F4.at 1 rfl 2 _ rfl⟩ : _ ∧ _ ∧ _)
        have zD : w.heap.size + 1 < w4.heap.size := F4.le 0 rfl
        have zE : w.heap.size < w4.heap.size := F4.le 1 rfl
        have pcell := (HR0.out _ F4.below).2.2
        have k0 := A4.sn.c0
        have k1 := A4.sn.c1
        have k2 := A4.c2
        have kf := A4.fz
        simp only [Nat.zero_add] at k0 k1
        have n1 := A4.sn.n1
        have n2 := A4.sn.n2
        have n3 := A4.sn.n3
        obtain ⟨n1', n2', n3'⟩ : ¬ sg = pg ∧ ¬ B = pg ∧ ¬ B = sg := ⟨fun e => n1 e.symm, fun e => n2 e.symm, fun e => n3 e.symm⟩
        have nbB := A4.sn.nb0
        have nbp := (A4.sn.op.lt pg rfl).1
        have nbs := (A4.sn.os.lt sg rfl).1
        obtain ⟨q1, q2, q3, q4, q5, q6⟩ : ¬ w.heap.size = B ∧ ¬ w.heap.size = pg ∧ ¬ w.heap.size = sg ∧ ¬ w.heap.size + 1 = B ∧ ¬ w.heap.size + 1 = pg ∧ ¬ w.heap.size + 1 = sg := by omega
        obtain ⟨q7, q8, q9⟩ : ¬ pb = B ∧ ¬ pb = pg ∧ ¬ pb = sg := by omega
        have HF := Lib.hid F4
        have HA := Lib.hid A4
        clear F4 A4 bx HF2 HOU HSK B0 HB4 hb4 hHeld HR0 HCW
        have B1 := HF.out.below
        go_wp2
        refine bodyPost_ret (v := .tuple #[P.val ⟨pits, stores, pn⟩ (some ⟨pg, 0, none⟩) uc (some ⟨sg, 0, none⟩) vc, .int .i64 0, .bool false]) (by simp [results, Try.results57, go_sem, x0, x1, x2, bf, zD, P.val, P.cells]) rfl ?_
        refine ⟨?_, .inl ⟨HS.out, _, ⟨_, _, _, _⟩, _, rfl⟩⟩
        repeat (first | (with_reducible exact B1) | ((with_reducible refine Below.setCell ?_ ?_ _); rotate_left; (simp <;> omega)) | (with_reducible refine Below.drew ?_) | (with_reducible exact Below.trans B1 (below_draws _ _ _)))
      · have HS := Lib.hid ((hST.trans (if_neg hlt)).trans (if_pos (by omega)))
        clear hST
        go_enter Try.func57, Try.ntmps57
        go_wp2_with fail
        refine HOW.out.mono ?_
        rintro e w1 ⟨ua, uc, va, vc, rfl, ho, hb1⟩
        try simp only [World.size_alloc] at ho
        obtain ⟨pg, rfl, hp1, hp2⟩ := own_lt_n ho.pits HLP.out.1
        obtain ⟨sg, rfl, hs1, hs2⟩ := own_lt_n ho.stores HLP.out.2.1
        have zA : w.heap.size < w1.heap.size := (F0.step hb1).le 1 rfl
        have zB : w.heap.size + 1 < w1.heap.size := (F0.step hb1).le 0 rfl
        have F2 := (F0.step hb1).step (below_alloc1 w1 (.cells #[.slice (some ⟨pg, 0, none⟩) pits.length uc, .slice (some ⟨sg, 0, none⟩) stores.length vc, .int .i64 pn] 30))
        have HO2 := OuP.start (base := w.heap.size + 1 + 1) ho (Nat.le_refl _) zB 30
        obtain ⟨B, hB⟩ : ∃ B, B = w1.heap.size := ⟨_, rfl⟩
        obtain ⟨W2, hW2⟩ : ∃ W, W = (w1.alloc (.cells #[.slice (some ⟨pg, 0, none⟩) pits.length uc, .slice (some ⟨sg, 0, none⟩) stores.length vc, .int .i64 pn] 30)) := ⟨_, rfl⟩
        simp only at HO2
        rw [← hB, ← hW2] at HO2
        rw [← hW2] at F2
        have HF2 := Lib.hid F2
        have HOU := Lib.hid HO2
        have zC : w.heap.size < W2.heap.size := F2.le 1 rfl
        have HSK : Hid (∀ W, Below W2.heap.size W2 W → (W.cell? ⟨w.heap.size, 0, none⟩ = some (.int .i64 2) ∧ W.cell? ⟨w.heap.size, 1, none⟩ = some (.int .i64 (-1)) ∧ W.cell? ⟨w.heap.size, 2, none⟩ = some (.int .i64 c) ∧ W.cell? ⟨rb, ro, none⟩ = some (.int .i64 r.pits) ∧ W.cell? ⟨rb, ro + 2, none⟩ = some (.bool true))) := fun W hW => ⟨((bcell hW).1 _ _ zC).trans (HF2.out.at 1 rfl 0 _ rfl), ((bcell hW).1 _ _ zC).trans (HF2.out.at 1 rfl 1 _ rfl), ((bcell hW).1 _ _ zC).trans (HF2.out.at 1 rfl 2 _ rfl), (HR0.out _ (HF2.out.step hW).below).1, (HR0.out _ (HF2.out.step hW).below).2.1.trans (by rw [HST.out])⟩
        have B0 : Hid (Below W2.heap.size W2 W2.drew) := (Below.refl _ _).drew
        clear ho hb1 F0 F2 HO2 hp1 hp2 hs1 hs2 zA zB HOW
        go_wp2_with fail
        try rw [← hW2]
        try simp only [← hB]
        clear hW2 hB
        refine heldH (S := fun W => W.cell? ⟨w.heap.size, 0, none⟩ = some (.int .i64 2) ∧ W.cell? ⟨w.heap.size, 1, none⟩ = some (.int .i64 (-1)) ∧ W.cell? ⟨w.heap.size, 2, none⟩ = some (.int .i64 c) ∧ W.cell? ⟨rb, ro, none⟩ = some (.int .i64 r.pits) ∧ W.cell? ⟨rb, ro + 2, none⟩ = some (.bool true)) (n := 25) (listed := #[false, false, false, false, false, false, false, false, false, false, false, false, false, false, false, false, false, false, false, false, false, false, false, false, false]) (by kernel_rfl) (by rfl) (by rfl) ?_ (fun hHeld => ?_)
        (focus ((try dsimp only); (first | done | (((refine HSK.out _ ?_; first | (with_reducible exact HB4.out) | exact B0.out)); done))))
        (refine takeH (i := 0) (v := ?_) (by decide +kernel) (by decide +kernel) (by kernel_rfl) (by rfl) (by exact fun _ _ _ h => h) (by rfl) ?_ (by assumption) ?_); rotate_left; (focus (intro w hSw; (try dsimp only at hSw); go_simp; (try with_reducible rfl); done)); (try simp only [Act.put, List.setIfInBounds_toArray, List.set_cons_zero, List.set_cons_succ])
        refine nextH (i := 1) (by decide +kernel) (by rfl) (by rfl) (fun K hK => ?_)
        go_simp
        ((go_at_call 106; (refine (HCW.out _).mono ?_); (rintro e w4 ⟨rfl, hb4⟩); (have HB4 := Lib.hid (below_next B0.out hb4))))
        refine hK.out _ _ ?_ (fun hHeld' => ?_)
        (focus ((try dsimp only); (first | done | (((refine HSK.out _ ?_; first | (with_reducible exact HB4.out) | exact B0.out)); done))))
        clear hK K hHeld
        have hHeld := hHeld'
        clear hHeld'
        (try simp only [Act.put, List.setIfInBounds_toArray, List.set_cons_zero, List.set_cons_succ])
        (refine takeH (i := 2) (v := ?_) (by decide +kernel) (by decide +kernel) (by kernel_rfl) (by rfl) (by exact fun _ _ _ h => h) (by rfl) ?_ (by assumption) ?_); rotate_left; (focus (intro w hSw; (try dsimp only at hSw); go_simp; (try with_reducible rfl); done)); (try simp only [Act.put, List.setIfInBounds_toArray, List.set_cons_zero, List.set_cons_succ])
        (refine takeH (i := 3) (v := ?_) (by decide +kernel) (by decide +kernel) (by kernel_rfl) (by rfl) (by exact fun _ _ _ h => h) (by rfl) ?_ (by assumption) ?_); rotate_left; (focus (intro w hSw; (try dsimp only at hSw); go_simp; (try with_reducible rfl); done)); (try simp only [Act.put, List.setIfInBounds_toArray, List.set_cons_zero, List.set_cons_succ])
        (refine takeH (i := 4) (v := ?_) (by decide +kernel) (by decide +kernel) (by kernel_rfl) (by rfl) (by exact fun _ _ _ h => h) (by rfl) ?_ (by assumption) ?_); rotate_left; (focus (intro w hSw; (try dsimp only at hSw); go_simp; (try with_reducible rfl); done)); (try simp only [Act.put, List.setIfInBounds_toArray, List.set_cons_zero, List.set_cons_succ])
        (refine takeH (i := 5) (v := ?_) (by decide +kernel) (by decide +kernel) (by kernel_rfl) (by rfl) (by exact fun _ _ _ h => h) (by rfl) ?_ (by assumption) ?_); rotate_left; (focus (intro w hSw; (try dsimp only at hSw); go_simp; (try with_reducible rfl); done)); (try simp only [Act.put, List.setIfInBounds_toArray, List.set_cons_zero, List.set_cons_succ])
        (refine takeH (i := 6) (v := ?_) (by decide +kernel) (by decide +kernel) (by kernel_rfl) (by rfl) (by exact fun _ _ _ h => h) (by rfl) ?_ (by assumption) ?_); rotate_left; (focus (intro w hSw; (try dsimp only at hSw); go_simp; (try with_reducible rfl); done)); (try simp only [Act.put, List.setIfInBounds_toArray, List.set_cons_zero, List.set_cons_succ])
        (refine takeH (i := 7) (v := ?_) (by decide +kernel) (by decide +kernel) (by kernel_rfl) (by rfl) (by exact fun _ _ _ h => h) (by rfl) ?_ (by assumption) ?_); rotate_left; (focus (intro w hSw; (try dsimp only at hSw); go_simp; (try with_reducible rfl); done)); (try simp only [Act.put, List.setIfInBounds_toArray, List.set_cons_zero, List.set_cons_succ])
        (refine takeH (i := 8) (v := ?_) (by decide +kernel) (by decide +kernel) (by kernel_rfl) (by rfl) (by exact fun _ _ _ h => h) (by rfl) ?_ (by assumption) ?_); rotate_left; (focus (intro w hSw; (try dsimp only at hSw); go_simp; (try with_reducible rfl); done)); (try simp only [Act.put, List.setIfInBounds_toArray, List.set_cons_zero, List.set_cons_succ])
        (refine takeH (i := 9) (v := ?_) (by decide +kernel) (by decide +kernel) (by kernel_rfl) (by rfl) (by exact fun _ _ _ h => h) (by rfl) ?_ (by assumption) ?_); rotate_left; (focus (intro w hSw; (try dsimp only at hSw); go_simp; (try with_reducible rfl); done)); (try simp only [Act.put, List.setIfInBounds_toArray, List.set_cons_zero, List.set_cons_succ])
        (refine takeH (i := 10) (v := ?_) (by decide +kernel) (by decide +kernel) (by kernel_rfl) (by rfl) (by exact fun _ _ _ h => h) (by rfl) ?_ (by assumption) ?_); rotate_left; (focus (intro w hSw; (try dsimp only at hSw); go_simp; (try with_reducible rfl); done)); (try simp only [Act.put, List.setIfInBounds_toArray, List.set_cons_zero, List.set_cons_succ])
        (refine takeH (i := 11) (v := ?_) (by decide +kernel) (by decide +kernel) (by kernel_rfl) (by rfl) (by exact fun _ _ _ h => h) (by rfl) ?_ (by assumption) ?_); rotate_left; (focus (intro w hSw; (try dsimp only at hSw); go_simp; (try with_reducible rfl); done)); (try simp only [Act.put, List.setIfInBounds_toArray, List.set_cons_zero, List.set_cons_succ])
        (refine takeH (i := 12) (v := ?_) (by decide +kernel) (by decide +kernel) (by kernel_rfl) (by rfl) (by exact fun _ _ _ h => h) (by rfl) ?_ (by assumption) ?_); rotate_left; (focus (intro w hSw; (try dsimp only at hSw); go_simp; (try with_reducible rfl); done)); (try simp only [Act.put, List.setIfInBounds_toArray, List.set_cons_zero, List.set_cons_succ])
        (refine takeH (i := 13) (v := ?_) (by decide +kernel) (by decide +kernel) (by kernel_rfl) (by rfl) (by exact fun _ _ _ h => h) (by rfl) ?_ (by assumption) ?_); rotate_left; (focus (intro w hSw; (try dsimp only at hSw); go_simp; (try with_reducible rfl); done)); (try simp only [Act.put, List.setIfInBounds_toArray, List.set_cons_zero, List.set_cons_succ])
        (refine takeH (i := 14) (v := ?_) (by decide +kernel) (by decide +kernel) (by kernel_rfl) (by rfl) (by exact fun _ _ _ h => h) (by rfl) ?_ (by assumption) ?_); rotate_left; (focus (intro w hSw; (try dsimp only at hSw); go_simp; (try with_reducible rfl); done)); (try simp only [Act.put, List.setIfInBounds_toArray, List.set_cons_zero, List.set_cons_succ])
        (refine takeH (i := 15) (v := ?_) (by decide +kernel) (by decide +kernel) (by kernel_rfl) (by rfl) (by exact fun _ _ _ h => h) (by rfl) ?_ (by assumption) ?_); rotate_left; (focus (intro w hSw; (try dsimp only at hSw); go_simp; (try with_reducible rfl); done)); (try simp only [Act.put, List.setIfInBounds_toArray, List.set_cons_zero, List.set_cons_succ])
        (refine takeH (i := 16) (v := ?_) (by decide +kernel) (by decide +kernel) (by kernel_rfl) (by rfl) (by exact fun _ _ _ h => h) (by rfl) ?_ (by assumption) ?_); rotate_left; (focus (intro w hSw; (try dsimp only at hSw); go_simp; (try with_reducible rfl); done)); (try simp only [Act.put, List.setIfInBounds_toArray, List.set_cons_zero, List.set_cons_succ])
        (refine takeH (i := 17) (v := ?_) (by decide +kernel) (by decide +kernel) (by kernel_rfl) (by rfl) (by exact fun _ _ _ h => h) (by rfl) ?_ (by assumption) ?_); rotate_left; (focus (intro w hSw; (try dsimp only at hSw); go_simp; (try with_reducible rfl); done)); (try simp only [Act.put, List.setIfInBounds_toArray, List.set_cons_zero, List.set_cons_succ])
        (refine takeH (i := 18) (v := ?_) (by decide +kernel) (by decide +kernel) (by kernel_rfl) (by rfl) (by exact fun _ _ _ h => h) (by rfl) ?_ (by assumption) ?_); rotate_left; (focus (intro w hSw; (try dsimp only at hSw); go_simp; (try with_reducible rfl); done)); (try simp only [Act.put, List.setIfInBounds_toArray, List.set_cons_zero, List.set_cons_succ])
        (refine takeH (i := 19) (v := ?_) (by decide +kernel) (by decide +kernel) (by kernel_rfl) (by rfl) (by exact fun _ _ _ h => h) (by rfl) ?_ (by assumption) ?_); rotate_left; (focus (intro w hSw; (try dsimp only at hSw); go_simp; (try with_reducible rfl); done)); (try simp only [Act.put, List.setIfInBounds_toArray, List.set_cons_zero, List.set_cons_succ])
        (refine takeH (i := 20) (v := ?_) (by decide +kernel) (by decide +kernel) (by kernel_rfl) (by rfl) (by exact fun _ _ _ h => h) (by rfl) ?_ (by assumption) ?_); rotate_left; (focus (intro w hSw; (try dsimp only at hSw); go_simp; (try with_reducible rfl); done)); (try simp only [Act.put, List.setIfInBounds_toArray, List.set_cons_zero, List.set_cons_succ])
        (refine takeH (i := 21) (v := ?_) (by decide +kernel) (by decide +kernel) (by kernel_rfl) (by rfl) (by exact fun _ _ _ h => h) (by rfl) ?_ (by assumption) ?_); rotate_left; (focus (intro w hSw; (try dsimp only at hSw); go_simp; (try with_reducible rfl); done)); (try simp only [Act.put, List.setIfInBounds_toArray, List.set_cons_zero, List.set_cons_succ])
        (refine takeH (i := 22) (v := ?_) (by decide +kernel) (by decide +kernel) (by kernel_rfl) (by rfl) (by exact fun _ _ _ h => h) (by rfl) ?_ (by assumption) ?_); rotate_left; (focus (intro w hSw; (try dsimp only at hSw); go_simp; (try with_reducible rfl); done)); (try simp only [Act.put, List.setIfInBounds_toArray, List.set_cons_zero, List.set_cons_succ])
        (refine takeH (i := 23) (v := ?_) (by decide +kernel) (by decide +kernel) (by kernel_rfl) (by rfl) (by exact fun _ _ _ h => h) (by rfl) ?_ (by assumption) ?_); rotate_left; (focus (intro w hSw; (try dsimp only at hSw); go_simp; (try with_reducible rfl); done)); (try simp only [Act.put, List.setIfInBounds_toArray, List.set_cons_zero, List.set_cons_succ])
        (refine takeH (i := 24) (v := ?_) (by decide +kernel) (by decide +kernel) (by kernel_rfl) (by rfl) (by exact fun _ _ _ h => h) (by rfl) ?_ (by assumption) ?_); rotate_left; (focus (intro w hSw; (try dsimp only at hSw); go_simp; (try with_reducible rfl); done)); (try simp only [Act.put, List.setIfInBounds_toArray, List.set_cons_zero, List.set_cons_succ])
        refine wpAnyH_done (by decide +kernel) ?_ _
        have F4 := HF2.out.step HB4.out
        have A4 := HOU.out.below HB4.out
        obtain ⟨bx, bf⟩ := F4.at 0 rfl
        obtain ⟨x0, x1, x2⟩ := (⟨bx 0 _ rfl, bx 1 _ rfl, bx 2 _ rfl⟩ : _ ∧ _ ∧ _)
        obtain ⟨d0, d1, d2⟩ := (⟨F4.at 1 rfl 0 _ rfl, F4.at 1 rfl 1 _ rfl, F4.at 1 rfl 2 _ rfl⟩ : _ ∧ _ ∧ _)
        have zD : w.heap.size + 1 < w4.heap.size := F4.le 0 rfl
        have zE : w.heap.size < w4.heap.size := F4.le 1 rfl
        have pcell := (HR0.out _ F4.below).2.2
        have k0 := A4.sn.c0
        have k1 := A4.sn.c1
        have k2 := A4.c2
        have kf := A4.fz
        simp only [Nat.zero_add] at k0 k1
        have n1 := A4.sn.n1
        have n2 := A4.sn.n2
        have n3 := A4.sn.n3
        obtain ⟨n1', n2', n3'⟩ : ¬ sg = pg ∧ ¬ B = pg ∧ ¬ B = sg := ⟨fun e => n1 e.symm, fun e => n2 e.symm, fun e => n3 e.symm⟩
        have nbB := A4.sn.nb0
        have nbp := (A4.sn.op.lt pg rfl).1
        have nbs := (A4.sn.os.lt sg rfl).1
        obtain ⟨q1, q2, q3, q4, q5, q6⟩ : ¬ w.heap.size = B ∧ ¬ w.heap.size = pg ∧ ¬ w.heap.size = sg ∧ ¬ w.heap.size + 1 = B ∧ ¬ w.heap.size + 1 = pg ∧ ¬ w.heap.size + 1 = sg := by omega
        obtain ⟨q7, q8, q9⟩ : ¬ pb = B ∧ ¬ pb = pg ∧ ¬ pb = sg := by omega
        have HF := Lib.hid F4
        have HA := Lib.hid A4
        clear F4 A4 bx HF2 HOU HSK B0 HB4 hb4 hHeld HR0 HCW
        go_upto_region 14 with fail
        have es := (HA.out.sn.os.cellAt pn (by simp <;> omega)).trans (by simp [HY.out] : _ = some (.int .i64 y))
        have fs := HA.out.sn.os.frozenAt pn
        go_still_tail 12, (by kernel_rfl)
        clear es fs
        change wpList _ _ _ _ _ w4.drew
        have D : Below w4.heap.size w4 w4.drew := (Below.refl _ _).drew
        have HA2 := Lib.hid (HA.out.below D)
        have HF2 := Lib.hid (HF.out.step D)
        have d0' : w4.drew.cell? ⟨w.heap.size, 0, none⟩ = _ := d0
        have d1' : w4.drew.cell? ⟨w.heap.size, 1, none⟩ = _ := d1
        have d2' : w4.drew.cell? ⟨w.heap.size, 2, none⟩ = _ := d2
        have x0' : w4.drew.cell? ⟨w.heap.size + 1, 0, none⟩ = _ := x0
        have x1' : w4.drew.cell? ⟨w.heap.size + 1, 1, none⟩ = _ := x1
        have x2' : w4.drew.cell? ⟨w.heap.size + 1, 2, none⟩ = _ := x2
        have bf' : ∀ o, w4.drew.frozen? ⟨w.heap.size + 1, o, none⟩ = false := bf
        have pc' : w4.drew.cell? ⟨pb, po + 2, none⟩ = _ := pcell
        have zD' : w.heap.size + 1 < w4.drew.heap.size := zD
        have zE' : w.heap.size < w4.drew.heap.size := zE
        clear d0 d1 d2 x0 x1 x2 bf pcell zD zE k0 k1 k2 kf HA HF D
        generalize w4.drew = we at *
        have HA := HA2
        have HF := HF2
        have x0 := x0'
        have x1 := x1'
        have x2 := x2'
        have bf := bf'
        have zD := zD'
        have zE := zE'
        have d0 := d0'
        have d1 := d1'
        have d2 := d2'
        have pcell := pc'
        clear HA2 HF2 x0' x1' x2' bf' zD' zE' d0' d1' d2' pc'
        have k0 := HA.out.sn.c0
        have k1 := HA.out.sn.c1
        have k2 := HA.out.c2
        have kf := HA.out.fz
        simp only [Nat.zero_add] at k0 k1
        have es := (HA.out.sn.os.cellAt pn (by simp <;> omega)).trans (by simp [HY.out] : _ = some (.int .i64 y))
        have fs := HA.out.sn.os.frozenAt pn
        go_upto_region 16 with fail
        have HA2 := Lib.hid (HA.out.sto pn (y + c))
        have HB2 := Lib.hid (HF.out.low (show Below (w.heap.size + 1 + 1) we (we.setCell ⟨sg, pn, none⟩ (.int .i64 (y + c))) from (Below.refl _ _).setCell nbs _) (by omega) (by simp))
        have d0' : (we.setCell ⟨sg, pn, none⟩ (.int .i64 (y + c))).cell? ⟨w.heap.size, 0, none⟩ = _ := (cell_other (by omega)).trans d0
        have d1' : (we.setCell ⟨sg, pn, none⟩ (.int .i64 (y + c))).cell? ⟨w.heap.size, 1, none⟩ = _ := (cell_other (by omega)).trans d1
        have d2' : (we.setCell ⟨sg, pn, none⟩ (.int .i64 (y + c))).cell? ⟨w.heap.size, 2, none⟩ = _ := (cell_other (by omega)).trans d2
        have x0' : (we.setCell ⟨sg, pn, none⟩ (.int .i64 (y + c))).cell? ⟨w.heap.size + 1, 0, none⟩ = _ := (cell_other (by omega)).trans x0
        have x1' : (we.setCell ⟨sg, pn, none⟩ (.int .i64 (y + c))).cell? ⟨w.heap.size + 1, 1, none⟩ = _ := (cell_other (by omega)).trans x1
        have x2' : (we.setCell ⟨sg, pn, none⟩ (.int .i64 (y + c))).cell? ⟨w.heap.size + 1, 2, none⟩ = _ := (cell_other (by omega)).trans x2
        have bf' : ∀ o, (we.setCell ⟨sg, pn, none⟩ (.int .i64 (y + c))).frozen? ⟨w.heap.size + 1, o, none⟩ = false := fun o => by simpa using bf o
        have pc' : (we.setCell ⟨sg, pn, none⟩ (.int .i64 (y + c))).cell? ⟨pb, po + 2, none⟩ = _ := (cell_other (by omega)).trans pcell
        have zD' : w.heap.size + 1 < (we.setCell ⟨sg, pn, none⟩ (.int .i64 (y + c))).heap.size := by simp; exact zD
        have zE' : w.heap.size < (we.setCell ⟨sg, pn, none⟩ (.int .i64 (y + c))).heap.size := by simp; exact zE
        clear d0 d1 d2 x0 x1 x2 bf pcell zD zE k0 k1 k2 kf HA HF
        generalize (we.setCell ⟨sg, pn, none⟩ (.int .i64 (y + c))) = wf at *
        have HA := HA2
        have HF := HB2
        have x0 := x0'
        have x1 := x1'
        have x2 := x2'
        have bf := bf'
        have zD := zD'
        have zE := zE'
        have d0 := d0'
        have d1 := d1'
        have d2 := d2'
        have pcell := pc'
        clear HA2 HB2 x0' x1' x2' bf' zD' zE' d0' d1' d2' pc'
        have k0 := HA.out.sn.c0
        have k1 := HA.out.sn.c1
        have k2 := HA.out.c2
        have kf := HA.out.fz
        simp only [Nat.zero_add] at k0 k1
        have HO2 := Lib.hid (HA.out)
        have B1 := HF.out.below
        go_region
        go_wp2
        refine bodyPost_ret (v := .tuple #[P.val ⟨pits, stores.set pn (y + c), pn⟩ (some ⟨pg, 0, none⟩) uc (some ⟨sg, 0, none⟩) vc, .int .i64 (hand - c), .bool true]) (by simp [results, Try.results57, go_sem, x0, x1, x2, bf, zD, P.val, P.cells]) rfl ?_
        refine ⟨?_, .inr ⟨_, ⟨_, _, _, _⟩, _, HS.out, rfl, ?_⟩⟩
        · repeat (first | (with_reducible exact B1) | ((with_reducible refine Below.setCell ?_ ?_ _); rotate_left; (simp <;> omega)) | (with_reducible refine Below.drew ?_) | (with_reducible exact Below.trans B1 (below_draws _ _ _)))
        have k9 := HO2.out.own (low := w.heap.size + 1 + 1) (Nat.le_refl _)
        refine ⟨?_, ?_, k9.apart⟩
        · have k0 := k9.pits
          dsimp only at k0 ⊢
          (try simp only [List.length_set] at k0)
          (try simp only [List.length_set])
          refine ownsRow_le (base := w.heap.size + 1 + 1) ?_ (by omega)
          repeat (first | (with_reducible exact k0) | (with_reducible refine World.ownsRow.drew ?_) | ((with_reducible refine ownsRow_setCell_below ?_ ?_ _); rotate_left; (simp <;> omega)))
        · have k0 := k9.stores
          dsimp only at k0 ⊢
          (try simp only [List.length_set] at k0)
          (try simp only [List.length_set])
          refine ownsRow_le (base := w.heap.size + 1 + 1) ?_ (by omega)
          repeat (first | (with_reducible exact k0) | (with_reducible refine World.ownsRow.drew ?_) | ((with_reducible refine ownsRow_setCell_below ?_ ?_ _); rotate_left; (simp <;> omega)))
    · have hxI : (x : Int) < (pits.length : Int) := by omega
      have hd1 : decide (2 * r.pits ≤ (x : Int)) = false := by simp; omega
      have hd1' : ¬ 2 * r.pits ≤ (x : Int) := by omega
      have hd2 : decide ((x : Int) < 0) = false := by simp
      obtain ⟨v, hv⟩ : ∃ v, v = pits.getD x 0 := ⟨_, rfl⟩
      have hvb : 0 ≤ v ∧ v ≤ T := by rw [hv, List.getD_eq_getElem?_getD, List.getElem?_eq_getElem hxl]; exact hbp _ (List.getElem_mem hxl)
      obtain ⟨v0, vT⟩ := hvb
      have HX := Lib.hid (show pits[x]? = some v by rw [hv]; simp [hxl])
      by_cases hlt : hand < c
      · have HS := Lib.hid (hST.trans (if_pos hlt))
        clear hST hbp hv hx2
        go_enter Try.func57, Try.ntmps57
        go_wp2_with fail
        refine HOW.out.mono ?_
        rintro e w1 ⟨ua, uc, va, vc, rfl, ho, hb1⟩
        try simp only [World.size_alloc] at ho
        obtain ⟨pg, rfl, hp1, hp2⟩ := own_lt_n ho.pits HLP.out.1
        obtain ⟨sg, rfl, hs1, hs2⟩ := own_lt_n ho.stores HLP.out.2.1
        have zA : w.heap.size < w1.heap.size := (F0.step hb1).le 1 rfl
        have zB : w.heap.size + 1 < w1.heap.size := (F0.step hb1).le 0 rfl
        have F2 := (F0.step hb1).step (below_alloc1 w1 (.cells #[.slice (some ⟨pg, 0, none⟩) pits.length uc, .slice (some ⟨sg, 0, none⟩) stores.length vc, .int .i64 pn] 30))
        have HO2 := OuP.start (base := w.heap.size + 1 + 1) ho (Nat.le_refl _) zB 30
        obtain ⟨B, hB⟩ : ∃ B, B = w1.heap.size := ⟨_, rfl⟩
        obtain ⟨W2, hW2⟩ : ∃ W, W = (w1.alloc (.cells #[.slice (some ⟨pg, 0, none⟩) pits.length uc, .slice (some ⟨sg, 0, none⟩) stores.length vc, .int .i64 pn] 30)) := ⟨_, rfl⟩
        simp only at HO2
        rw [← hB, ← hW2] at HO2
        rw [← hW2] at F2
        have HF2 := Lib.hid F2
        have HOU := Lib.hid HO2
        have zC : w.heap.size < W2.heap.size := F2.le 1 rfl
        have HSK : Hid (∀ W, Below W2.heap.size W2 W → (W.cell? ⟨w.heap.size, 0, none⟩ = some (.int .i64 2) ∧ W.cell? ⟨w.heap.size, 1, none⟩ = some (.int .i64 x) ∧ W.cell? ⟨w.heap.size, 2, none⟩ = some (.int .i64 c) ∧ W.cell? ⟨rb, ro, none⟩ = some (.int .i64 r.pits) ∧ W.cell? ⟨rb, ro + 2, none⟩ = some (.bool r.stores))) := fun W hW => ⟨((bcell hW).1 _ _ zC).trans (HF2.out.at 1 rfl 0 _ rfl), ((bcell hW).1 _ _ zC).trans (HF2.out.at 1 rfl 1 _ rfl), ((bcell hW).1 _ _ zC).trans (HF2.out.at 1 rfl 2 _ rfl), (HR0.out _ (HF2.out.step hW).below).1, (HR0.out _ (HF2.out.step hW).below).2.1⟩
        have B0 : Hid (Below W2.heap.size W2 W2.drew) := (Below.refl _ _).drew
        clear ho hb1 F0 F2 HO2 hp1 hp2 hs1 hs2 zA zB HOW
        go_wp2_with fail
        try rw [← hW2]
        try simp only [← hB]
        clear hW2 hB
        refine heldH (S := fun W => W.cell? ⟨w.heap.size, 0, none⟩ = some (.int .i64 2) ∧ W.cell? ⟨w.heap.size, 1, none⟩ = some (.int .i64 x) ∧ W.cell? ⟨w.heap.size, 2, none⟩ = some (.int .i64 c) ∧ W.cell? ⟨rb, ro, none⟩ = some (.int .i64 r.pits) ∧ W.cell? ⟨rb, ro + 2, none⟩ = some (.bool r.stores)) (n := 25) (listed := #[false, false, false, false, false, false, false, false, false, false, false, false, false, false, false, false, false, false, false, false, false, false, false, false, false]) (by kernel_rfl) (by rfl) (by rfl) ?_ (fun hHeld => ?_)
        (focus ((try dsimp only); (first | done | (((refine HSK.out _ ?_; first | (with_reducible exact HB4.out) | exact B0.out)); done))))
        (refine takeH (i := 0) (v := ?_) (by decide +kernel) (by decide +kernel) (by kernel_rfl) (by rfl) (by exact fun _ _ _ h => h) (by rfl) ?_ (by assumption) ?_); rotate_left; (focus (intro w hSw; (try dsimp only at hSw); go_simp; (try with_reducible rfl); done)); (try simp only [Act.put, List.setIfInBounds_toArray, List.set_cons_zero, List.set_cons_succ])
        refine nextH (i := 1) (by decide +kernel) (by rfl) (by rfl) (fun K hK => ?_)
        go_simp
        ((go_at_call 106; (refine (HCW.out _).mono ?_); (rintro e w4 ⟨rfl, hb4⟩); (have HB4 := Lib.hid (below_next B0.out hb4))))
        refine hK.out _ _ ?_ (fun hHeld' => ?_)
        (focus ((try dsimp only); (first | done | (((refine HSK.out _ ?_; first | (with_reducible exact HB4.out) | exact B0.out)); done))))
        clear hK K hHeld
        have hHeld := hHeld'
        clear hHeld'
        (try simp only [Act.put, List.setIfInBounds_toArray, List.set_cons_zero, List.set_cons_succ])
        (refine takeH (i := 2) (v := ?_) (by decide +kernel) (by decide +kernel) (by kernel_rfl) (by rfl) (by exact fun _ _ _ h => h) (by rfl) ?_ (by assumption) ?_); rotate_left; (focus (intro w hSw; (try dsimp only at hSw); go_simp; (try with_reducible rfl); done)); (try simp only [Act.put, List.setIfInBounds_toArray, List.set_cons_zero, List.set_cons_succ])
        (refine takeH (i := 3) (v := ?_) (by decide +kernel) (by decide +kernel) (by kernel_rfl) (by rfl) (by exact fun _ _ _ h => h) (by rfl) ?_ (by assumption) ?_); rotate_left; (focus (intro w hSw; (try dsimp only at hSw); go_simp; (try with_reducible rfl); done)); (try simp only [Act.put, List.setIfInBounds_toArray, List.set_cons_zero, List.set_cons_succ])
        (refine takeH (i := 4) (v := ?_) (by decide +kernel) (by decide +kernel) (by kernel_rfl) (by rfl) (by exact fun _ _ _ h => h) (by rfl) ?_ (by assumption) ?_); rotate_left; (focus (intro w hSw; (try dsimp only at hSw); go_simp; (try with_reducible rfl); done)); (try simp only [Act.put, List.setIfInBounds_toArray, List.set_cons_zero, List.set_cons_succ])
        (refine takeH (i := 5) (v := ?_) (by decide +kernel) (by decide +kernel) (by kernel_rfl) (by rfl) (by exact fun _ _ _ h => h) (by rfl) ?_ (by assumption) ?_); rotate_left; (focus (intro w hSw; (try dsimp only at hSw); go_simp; (try with_reducible rfl); done)); (try simp only [Act.put, List.setIfInBounds_toArray, List.set_cons_zero, List.set_cons_succ])
        (refine takeH (i := 6) (v := ?_) (by decide +kernel) (by decide +kernel) (by kernel_rfl) (by rfl) (by exact fun _ _ _ h => h) (by rfl) ?_ (by assumption) ?_); rotate_left; (focus (intro w hSw; (try dsimp only at hSw); go_simp; (try with_reducible rfl); done)); (try simp only [Act.put, List.setIfInBounds_toArray, List.set_cons_zero, List.set_cons_succ])
        (refine takeH (i := 7) (v := ?_) (by decide +kernel) (by decide +kernel) (by kernel_rfl) (by rfl) (by exact fun _ _ _ h => h) (by rfl) ?_ (by assumption) ?_); rotate_left; (focus (intro w hSw; (try dsimp only at hSw); go_simp; (try with_reducible rfl); done)); (try simp only [Act.put, List.setIfInBounds_toArray, List.set_cons_zero, List.set_cons_succ])
        (refine takeH (i := 8) (v := ?_) (by decide +kernel) (by decide +kernel) (by kernel_rfl) (by rfl) (by exact fun _ _ _ h => h) (by rfl) ?_ (by assumption) ?_); rotate_left; (focus (intro w hSw; (try dsimp only at hSw); go_simp; (try with_reducible rfl); done)); (try simp only [Act.put, List.setIfInBounds_toArray, List.set_cons_zero, List.set_cons_succ])
        (refine takeH (i := 9) (v := ?_) (by decide +kernel) (by decide +kernel) (by kernel_rfl) (by rfl) (by exact fun _ _ _ h => h) (by rfl) ?_ (by assumption) ?_); rotate_left; (focus (intro w hSw; (try dsimp only at hSw); go_simp; (try with_reducible rfl); done)); (try simp only [Act.put, List.setIfInBounds_toArray, List.set_cons_zero, List.set_cons_succ])
        (refine takeH (i := 10) (v := ?_) (by decide +kernel) (by decide +kernel) (by kernel_rfl) (by rfl) (by exact fun _ _ _ h => h) (by rfl) ?_ (by assumption) ?_); rotate_left; (focus (intro w hSw; (try dsimp only at hSw); go_simp; (try with_reducible rfl); done)); (try simp only [Act.put, List.setIfInBounds_toArray, List.set_cons_zero, List.set_cons_succ])
        (refine takeH (i := 11) (v := ?_) (by decide +kernel) (by decide +kernel) (by kernel_rfl) (by rfl) (by exact fun _ _ _ h => h) (by rfl) ?_ (by assumption) ?_); rotate_left; (focus (intro w hSw; (try dsimp only at hSw); go_simp; (try with_reducible rfl); done)); (try simp only [Act.put, List.setIfInBounds_toArray, List.set_cons_zero, List.set_cons_succ])
        (refine takeH (i := 12) (v := ?_) (by decide +kernel) (by decide +kernel) (by kernel_rfl) (by rfl) (by exact fun _ _ _ h => h) (by rfl) ?_ (by assumption) ?_); rotate_left; (focus (intro w hSw; (try dsimp only at hSw); go_simp; (try with_reducible rfl); done)); (try simp only [Act.put, List.setIfInBounds_toArray, List.set_cons_zero, List.set_cons_succ])
        (refine takeH (i := 13) (v := ?_) (by decide +kernel) (by decide +kernel) (by kernel_rfl) (by rfl) (by exact fun _ _ _ h => h) (by rfl) ?_ (by assumption) ?_); rotate_left; (focus (intro w hSw; (try dsimp only at hSw); go_simp; (try with_reducible rfl); done)); (try simp only [Act.put, List.setIfInBounds_toArray, List.set_cons_zero, List.set_cons_succ])
        (refine takeH (i := 14) (v := ?_) (by decide +kernel) (by decide +kernel) (by kernel_rfl) (by rfl) (by exact fun _ _ _ h => h) (by rfl) ?_ (by assumption) ?_); rotate_left; (focus (intro w hSw; (try dsimp only at hSw); go_simp; (try with_reducible rfl); done)); (try simp only [Act.put, List.setIfInBounds_toArray, List.set_cons_zero, List.set_cons_succ])
        (refine takeH (i := 15) (v := ?_) (by decide +kernel) (by decide +kernel) (by kernel_rfl) (by rfl) (by exact fun _ _ _ h => h) (by rfl) ?_ (by assumption) ?_); rotate_left; (focus (intro w hSw; (try dsimp only at hSw); go_simp; (try with_reducible rfl); done)); (try simp only [Act.put, List.setIfInBounds_toArray, List.set_cons_zero, List.set_cons_succ])
        (refine takeH (i := 16) (v := ?_) (by decide +kernel) (by decide +kernel) (by kernel_rfl) (by rfl) (by exact fun _ _ _ h => h) (by rfl) ?_ (by assumption) ?_); rotate_left; (focus (intro w hSw; (try dsimp only at hSw); go_simp; (try with_reducible rfl); done)); (try simp only [Act.put, List.setIfInBounds_toArray, List.set_cons_zero, List.set_cons_succ])
        (refine takeH (i := 17) (v := ?_) (by decide +kernel) (by decide +kernel) (by kernel_rfl) (by rfl) (by exact fun _ _ _ h => h) (by rfl) ?_ (by assumption) ?_); rotate_left; (focus (intro w hSw; (try dsimp only at hSw); go_simp; (try with_reducible rfl); done)); (try simp only [Act.put, List.setIfInBounds_toArray, List.set_cons_zero, List.set_cons_succ])
        ((refine skipH (i := 18) (by decide +kernel) (by decide +kernel) (by kernel_rfl) (by rfl) (by exact fun _ _ _ h => h) (by rfl) (by assumption) ?_); (try simp only [Act.put, List.setIfInBounds_toArray, List.set_cons_zero, List.set_cons_succ]))
        ((refine skipH (i := 19) (by decide +kernel) (by decide +kernel) (by kernel_rfl) (by rfl) (by exact fun _ _ _ h => h) (by rfl) (by assumption) ?_); (try simp only [Act.put, List.setIfInBounds_toArray, List.set_cons_zero, List.set_cons_succ]))
        ((refine skipH (i := 20) (by decide +kernel) (by decide +kernel) (by kernel_rfl) (by rfl) (by exact fun _ _ _ h => h) (by rfl) (by assumption) ?_); (try simp only [Act.put, List.setIfInBounds_toArray, List.set_cons_zero, List.set_cons_succ]))
        ((refine skipH (i := 21) (by decide +kernel) (by decide +kernel) (by kernel_rfl) (by rfl) (by exact fun _ _ _ h => h) (by rfl) (by assumption) ?_); (try simp only [Act.put, List.setIfInBounds_toArray, List.set_cons_zero, List.set_cons_succ]))
        ((refine skipH (i := 22) (by decide +kernel) (by decide +kernel) (by kernel_rfl) (by rfl) (by exact fun _ _ _ h => h) (by rfl) (by assumption) ?_); (try simp only [Act.put, List.setIfInBounds_toArray, List.set_cons_zero, List.set_cons_succ]))
        (refine takeH (i := 23) (v := ?_) (by decide +kernel) (by decide +kernel) (by kernel_rfl) (by rfl) (by exact fun _ _ _ h => h) (by rfl) ?_ (by assumption) ?_); rotate_left; (focus (intro w hSw; (try dsimp only at hSw); go_simp; (try with_reducible rfl); done)); (try simp only [Act.put, List.setIfInBounds_toArray, List.set_cons_zero, List.set_cons_succ])
        (refine takeH (i := 24) (v := ?_) (by decide +kernel) (by decide +kernel) (by kernel_rfl) (by rfl) (by exact fun _ _ _ h => h) (by rfl) ?_ (by assumption) ?_); rotate_left; (focus (intro w hSw; (try dsimp only at hSw); go_simp; (try with_reducible rfl); done)); (try simp only [Act.put, List.setIfInBounds_toArray, List.set_cons_zero, List.set_cons_succ])
        refine wpAnyH_done (by decide +kernel) ?_ _
        have F4 := HF2.out.step HB4.out
        have A4 := HOU.out.below HB4.out
        obtain ⟨bx, bf⟩ := F4.at 0 rfl
        obtain ⟨x0, x1, x2⟩ := (⟨bx 0 _ rfl, bx 1 _ rfl, bx 2 _ rfl⟩ : _ ∧ _ ∧ _)
        obtain ⟨d0, d1, d2⟩ := (⟨F4.at 1 rfl 0 _ rfl, F4.at 1 rfl 1 _ rfl, F4.at 1 rfl 2 _ rfl⟩ : _ ∧ _ ∧ _)
        have zD : w.heap.size + 1 < w4.heap.size := F4.le 0 rfl
        have zE : w.heap.size < w4.heap.size := F4.le 1 rfl
        have pcell := (HR0.out _ F4.below).2.2
        have k0 := A4.sn.c0
        have k1 := A4.sn.c1
        have k2 := A4.c2
        have kf := A4.fz
        simp only [Nat.zero_add] at k0 k1
        have n1 := A4.sn.n1
        have n2 := A4.sn.n2
        have n3 := A4.sn.n3
        obtain ⟨n1', n2', n3'⟩ : ¬ sg = pg ∧ ¬ B = pg ∧ ¬ B = sg := ⟨fun e => n1 e.symm, fun e => n2 e.symm, fun e => n3 e.symm⟩
        have nbB := A4.sn.nb0
        have nbp := (A4.sn.op.lt pg rfl).1
        have nbs := (A4.sn.os.lt sg rfl).1
        obtain ⟨q1, q2, q3, q4, q5, q6⟩ : ¬ w.heap.size = B ∧ ¬ w.heap.size = pg ∧ ¬ w.heap.size = sg ∧ ¬ w.heap.size + 1 = B ∧ ¬ w.heap.size + 1 = pg ∧ ¬ w.heap.size + 1 = sg := by omega
        obtain ⟨q7, q8, q9⟩ : ¬ pb = B ∧ ¬ pb = pg ∧ ¬ pb = sg := by omega
        have HF := Lib.hid F4
        have HA := Lib.hid A4
        clear F4 A4 bx HF2 HOU HSK B0 HB4 hb4 hHeld HR0 HCW
        have B1 := HF.out.below
        go_wp2
        refine bodyPost_ret (v := .tuple #[P.val ⟨pits, stores, pn⟩ (some ⟨pg, 0, none⟩) uc (some ⟨sg, 0, none⟩) vc, .int .i64 0, .bool false]) (by simp [results, Try.results57, go_sem, x0, x1, x2, bf, zD, P.val, P.cells]) rfl ?_
        refine ⟨?_, .inl ⟨HS.out, _, ⟨_, _, _, _⟩, _, rfl⟩⟩
        repeat (first | (with_reducible exact B1) | ((with_reducible refine Below.setCell ?_ ?_ _); rotate_left; (simp <;> omega)) | (with_reducible refine Below.drew ?_) | (with_reducible exact Below.trans B1 (below_draws _ _ _)))
      · have hadd : addAt pits x c = pits.set x (v + c) := by rw [hv]; simp [addAt]
        rw [hadd] at hST
        have HS := Lib.hid ((hST.trans (if_neg hlt)).trans (if_neg (by omega)))
        clear hST hbp hv hx2 hadd
        go_enter Try.func57, Try.ntmps57
        go_wp2_with fail
        refine HOW.out.mono ?_
        rintro e w1 ⟨ua, uc, va, vc, rfl, ho, hb1⟩
        try simp only [World.size_alloc] at ho
        obtain ⟨pg, rfl, hp1, hp2⟩ := own_lt_n ho.pits HLP.out.1
        obtain ⟨sg, rfl, hs1, hs2⟩ := own_lt_n ho.stores HLP.out.2.1
        have zA : w.heap.size < w1.heap.size := (F0.step hb1).le 1 rfl
        have zB : w.heap.size + 1 < w1.heap.size := (F0.step hb1).le 0 rfl
        have F2 := (F0.step hb1).step (below_alloc1 w1 (.cells #[.slice (some ⟨pg, 0, none⟩) pits.length uc, .slice (some ⟨sg, 0, none⟩) stores.length vc, .int .i64 pn] 30))
        have HO2 := OuP.start (base := w.heap.size + 1 + 1) ho (Nat.le_refl _) zB 30
        obtain ⟨B, hB⟩ : ∃ B, B = w1.heap.size := ⟨_, rfl⟩
        obtain ⟨W2, hW2⟩ : ∃ W, W = (w1.alloc (.cells #[.slice (some ⟨pg, 0, none⟩) pits.length uc, .slice (some ⟨sg, 0, none⟩) stores.length vc, .int .i64 pn] 30)) := ⟨_, rfl⟩
        simp only at HO2
        rw [← hB, ← hW2] at HO2
        rw [← hW2] at F2
        have HF2 := Lib.hid F2
        have HOU := Lib.hid HO2
        have zC : w.heap.size < W2.heap.size := F2.le 1 rfl
        have HSK : Hid (∀ W, Below W2.heap.size W2 W → (W.cell? ⟨w.heap.size, 0, none⟩ = some (.int .i64 2) ∧ W.cell? ⟨w.heap.size, 1, none⟩ = some (.int .i64 x) ∧ W.cell? ⟨w.heap.size, 2, none⟩ = some (.int .i64 c) ∧ W.cell? ⟨rb, ro, none⟩ = some (.int .i64 r.pits) ∧ W.cell? ⟨rb, ro + 2, none⟩ = some (.bool r.stores))) := fun W hW => ⟨((bcell hW).1 _ _ zC).trans (HF2.out.at 1 rfl 0 _ rfl), ((bcell hW).1 _ _ zC).trans (HF2.out.at 1 rfl 1 _ rfl), ((bcell hW).1 _ _ zC).trans (HF2.out.at 1 rfl 2 _ rfl), (HR0.out _ (HF2.out.step hW).below).1, (HR0.out _ (HF2.out.step hW).below).2.1⟩
        have B0 : Hid (Below W2.heap.size W2 W2.drew) := (Below.refl _ _).drew
        clear ho hb1 F0 F2 HO2 hp1 hp2 hs1 hs2 zA zB HOW
        go_wp2_with fail
        try rw [← hW2]
        try simp only [← hB]
        clear hW2 hB
        refine heldH (S := fun W => W.cell? ⟨w.heap.size, 0, none⟩ = some (.int .i64 2) ∧ W.cell? ⟨w.heap.size, 1, none⟩ = some (.int .i64 x) ∧ W.cell? ⟨w.heap.size, 2, none⟩ = some (.int .i64 c) ∧ W.cell? ⟨rb, ro, none⟩ = some (.int .i64 r.pits) ∧ W.cell? ⟨rb, ro + 2, none⟩ = some (.bool r.stores)) (n := 25) (listed := #[false, false, false, false, false, false, false, false, false, false, false, false, false, false, false, false, false, false, false, false, false, false, false, false, false]) (by kernel_rfl) (by rfl) (by rfl) ?_ (fun hHeld => ?_)
        (focus ((try dsimp only); (first | done | (((refine HSK.out _ ?_; first | (with_reducible exact HB4.out) | exact B0.out)); done))))
        (refine takeH (i := 0) (v := ?_) (by decide +kernel) (by decide +kernel) (by kernel_rfl) (by rfl) (by exact fun _ _ _ h => h) (by rfl) ?_ (by assumption) ?_); rotate_left; (focus (intro w hSw; (try dsimp only at hSw); go_simp; (try with_reducible rfl); done)); (try simp only [Act.put, List.setIfInBounds_toArray, List.set_cons_zero, List.set_cons_succ])
        refine nextH (i := 1) (by decide +kernel) (by rfl) (by rfl) (fun K hK => ?_)
        go_simp
        ((go_at_call 106; (refine (HCW.out _).mono ?_); (rintro e w4 ⟨rfl, hb4⟩); (have HB4 := Lib.hid (below_next B0.out hb4))))
        refine hK.out _ _ ?_ (fun hHeld' => ?_)
        (focus ((try dsimp only); (first | done | (((refine HSK.out _ ?_; first | (with_reducible exact HB4.out) | exact B0.out)); done))))
        clear hK K hHeld
        have hHeld := hHeld'
        clear hHeld'
        (try simp only [Act.put, List.setIfInBounds_toArray, List.set_cons_zero, List.set_cons_succ])
        (refine takeH (i := 2) (v := ?_) (by decide +kernel) (by decide +kernel) (by kernel_rfl) (by rfl) (by exact fun _ _ _ h => h) (by rfl) ?_ (by assumption) ?_); rotate_left; (focus (intro w hSw; (try dsimp only at hSw); go_simp; (try with_reducible rfl); done)); (try simp only [Act.put, List.setIfInBounds_toArray, List.set_cons_zero, List.set_cons_succ])
        (refine takeH (i := 3) (v := ?_) (by decide +kernel) (by decide +kernel) (by kernel_rfl) (by rfl) (by exact fun _ _ _ h => h) (by rfl) ?_ (by assumption) ?_); rotate_left; (focus (intro w hSw; (try dsimp only at hSw); go_simp; (try with_reducible rfl); done)); (try simp only [Act.put, List.setIfInBounds_toArray, List.set_cons_zero, List.set_cons_succ])
        (refine takeH (i := 4) (v := ?_) (by decide +kernel) (by decide +kernel) (by kernel_rfl) (by rfl) (by exact fun _ _ _ h => h) (by rfl) ?_ (by assumption) ?_); rotate_left; (focus (intro w hSw; (try dsimp only at hSw); go_simp; (try with_reducible rfl); done)); (try simp only [Act.put, List.setIfInBounds_toArray, List.set_cons_zero, List.set_cons_succ])
        (refine takeH (i := 5) (v := ?_) (by decide +kernel) (by decide +kernel) (by kernel_rfl) (by rfl) (by exact fun _ _ _ h => h) (by rfl) ?_ (by assumption) ?_); rotate_left; (focus (intro w hSw; (try dsimp only at hSw); go_simp; (try with_reducible rfl); done)); (try simp only [Act.put, List.setIfInBounds_toArray, List.set_cons_zero, List.set_cons_succ])
        (refine takeH (i := 6) (v := ?_) (by decide +kernel) (by decide +kernel) (by kernel_rfl) (by rfl) (by exact fun _ _ _ h => h) (by rfl) ?_ (by assumption) ?_); rotate_left; (focus (intro w hSw; (try dsimp only at hSw); go_simp; (try with_reducible rfl); done)); (try simp only [Act.put, List.setIfInBounds_toArray, List.set_cons_zero, List.set_cons_succ])
        (refine takeH (i := 7) (v := ?_) (by decide +kernel) (by decide +kernel) (by kernel_rfl) (by rfl) (by exact fun _ _ _ h => h) (by rfl) ?_ (by assumption) ?_); rotate_left; (focus (intro w hSw; (try dsimp only at hSw); go_simp; (try with_reducible rfl); done)); (try simp only [Act.put, List.setIfInBounds_toArray, List.set_cons_zero, List.set_cons_succ])
        (refine takeH (i := 8) (v := ?_) (by decide +kernel) (by decide +kernel) (by kernel_rfl) (by rfl) (by exact fun _ _ _ h => h) (by rfl) ?_ (by assumption) ?_); rotate_left; (focus (intro w hSw; (try dsimp only at hSw); go_simp; (try with_reducible rfl); done)); (try simp only [Act.put, List.setIfInBounds_toArray, List.set_cons_zero, List.set_cons_succ])
        (refine takeH (i := 9) (v := ?_) (by decide +kernel) (by decide +kernel) (by kernel_rfl) (by rfl) (by exact fun _ _ _ h => h) (by rfl) ?_ (by assumption) ?_); rotate_left; (focus (intro w hSw; (try dsimp only at hSw); go_simp; (try with_reducible rfl); done)); (try simp only [Act.put, List.setIfInBounds_toArray, List.set_cons_zero, List.set_cons_succ])
        (refine takeH (i := 10) (v := ?_) (by decide +kernel) (by decide +kernel) (by kernel_rfl) (by rfl) (by exact fun _ _ _ h => h) (by rfl) ?_ (by assumption) ?_); rotate_left; (focus (intro w hSw; (try dsimp only at hSw); go_simp; (try with_reducible rfl); done)); (try simp only [Act.put, List.setIfInBounds_toArray, List.set_cons_zero, List.set_cons_succ])
        (refine takeH (i := 11) (v := ?_) (by decide +kernel) (by decide +kernel) (by kernel_rfl) (by rfl) (by exact fun _ _ _ h => h) (by rfl) ?_ (by assumption) ?_); rotate_left; (focus (intro w hSw; (try dsimp only at hSw); go_simp; (try with_reducible rfl); done)); (try simp only [Act.put, List.setIfInBounds_toArray, List.set_cons_zero, List.set_cons_succ])
        (refine takeH (i := 12) (v := ?_) (by decide +kernel) (by decide +kernel) (by kernel_rfl) (by rfl) (by exact fun _ _ _ h => h) (by rfl) ?_ (by assumption) ?_); rotate_left; (focus (intro w hSw; (try dsimp only at hSw); go_simp; (try with_reducible rfl); done)); (try simp only [Act.put, List.setIfInBounds_toArray, List.set_cons_zero, List.set_cons_succ])
        (refine takeH (i := 13) (v := ?_) (by decide +kernel) (by decide +kernel) (by kernel_rfl) (by rfl) (by exact fun _ _ _ h => h) (by rfl) ?_ (by assumption) ?_); rotate_left; (focus (intro w hSw; (try dsimp only at hSw); go_simp; (try with_reducible rfl); done)); (try simp only [Act.put, List.setIfInBounds_toArray, List.set_cons_zero, List.set_cons_succ])
        (refine takeH (i := 14) (v := ?_) (by decide +kernel) (by decide +kernel) (by kernel_rfl) (by rfl) (by exact fun _ _ _ h => h) (by rfl) ?_ (by assumption) ?_); rotate_left; (focus (intro w hSw; (try dsimp only at hSw); go_simp; (try with_reducible rfl); done)); (try simp only [Act.put, List.setIfInBounds_toArray, List.set_cons_zero, List.set_cons_succ])
        (refine takeH (i := 15) (v := ?_) (by decide +kernel) (by decide +kernel) (by kernel_rfl) (by rfl) (by exact fun _ _ _ h => h) (by rfl) ?_ (by assumption) ?_); rotate_left; (focus (intro w hSw; (try dsimp only at hSw); go_simp; (try with_reducible rfl); done)); (try simp only [Act.put, List.setIfInBounds_toArray, List.set_cons_zero, List.set_cons_succ])
        (refine takeH (i := 16) (v := ?_) (by decide +kernel) (by decide +kernel) (by kernel_rfl) (by rfl) (by exact fun _ _ _ h => h) (by rfl) ?_ (by assumption) ?_); rotate_left; (focus (intro w hSw; (try dsimp only at hSw); go_simp; (try with_reducible rfl); done)); (try simp only [Act.put, List.setIfInBounds_toArray, List.set_cons_zero, List.set_cons_succ])
        (refine takeH (i := 17) (v := ?_) (by decide +kernel) (by decide +kernel) (by kernel_rfl) (by rfl) (by exact fun _ _ _ h => h) (by rfl) ?_ (by assumption) ?_); rotate_left; (focus (intro w hSw; (try dsimp only at hSw); go_simp; (try with_reducible rfl); done)); (try simp only [Act.put, List.setIfInBounds_toArray, List.set_cons_zero, List.set_cons_succ])
        ((refine skipH (i := 18) (by decide +kernel) (by decide +kernel) (by kernel_rfl) (by rfl) (by exact fun _ _ _ h => h) (by rfl) (by assumption) ?_); (try simp only [Act.put, List.setIfInBounds_toArray, List.set_cons_zero, List.set_cons_succ]))
        ((refine skipH (i := 19) (by decide +kernel) (by decide +kernel) (by kernel_rfl) (by rfl) (by exact fun _ _ _ h => h) (by rfl) (by assumption) ?_); (try simp only [Act.put, List.setIfInBounds_toArray, List.set_cons_zero, List.set_cons_succ]))
        ((refine skipH (i := 20) (by decide +kernel) (by decide +kernel) (by kernel_rfl) (by rfl) (by exact fun _ _ _ h => h) (by rfl) (by assumption) ?_); (try simp only [Act.put, List.setIfInBounds_toArray, List.set_cons_zero, List.set_cons_succ]))
        ((refine skipH (i := 21) (by decide +kernel) (by decide +kernel) (by kernel_rfl) (by rfl) (by exact fun _ _ _ h => h) (by rfl) (by assumption) ?_); (try simp only [Act.put, List.setIfInBounds_toArray, List.set_cons_zero, List.set_cons_succ]))
        ((refine skipH (i := 22) (by decide +kernel) (by decide +kernel) (by kernel_rfl) (by rfl) (by exact fun _ _ _ h => h) (by rfl) (by assumption) ?_); (try simp only [Act.put, List.setIfInBounds_toArray, List.set_cons_zero, List.set_cons_succ]))
        (refine takeH (i := 23) (v := ?_) (by decide +kernel) (by decide +kernel) (by kernel_rfl) (by rfl) (by exact fun _ _ _ h => h) (by rfl) ?_ (by assumption) ?_); rotate_left; (focus (intro w hSw; (try dsimp only at hSw); go_simp; (try with_reducible rfl); done)); (try simp only [Act.put, List.setIfInBounds_toArray, List.set_cons_zero, List.set_cons_succ])
        (refine takeH (i := 24) (v := ?_) (by decide +kernel) (by decide +kernel) (by kernel_rfl) (by rfl) (by exact fun _ _ _ h => h) (by rfl) ?_ (by assumption) ?_); rotate_left; (focus (intro w hSw; (try dsimp only at hSw); go_simp; (try with_reducible rfl); done)); (try simp only [Act.put, List.setIfInBounds_toArray, List.set_cons_zero, List.set_cons_succ])
        refine wpAnyH_done (by decide +kernel) ?_ _
        have F4 := HF2.out.step HB4.out
        have A4 := HOU.out.below HB4.out
        obtain ⟨bx, bf⟩ := F4.at 0 rfl
        obtain ⟨x0, x1, x2⟩ := (⟨bx 0 _ rfl, bx 1 _ rfl, bx 2 _ rfl⟩ : _ ∧ _ ∧ _)
        obtain ⟨d0, d1, d2⟩ := (⟨F4.at 1 rfl 0 _ rfl, F4.at 1 rfl 1 _ rfl, F4.at 1 rfl 2 _ rfl⟩ : _ ∧ _ ∧ _)
        have zD : w.heap.size + 1 < w4.heap.size := F4.le 0 rfl
        have zE : w.heap.size < w4.heap.size := F4.le 1 rfl
        have pcell := (HR0.out _ F4.below).2.2
        have k0 := A4.sn.c0
        have k1 := A4.sn.c1
        have k2 := A4.c2
        have kf := A4.fz
        simp only [Nat.zero_add] at k0 k1
        have n1 := A4.sn.n1
        have n2 := A4.sn.n2
        have n3 := A4.sn.n3
        obtain ⟨n1', n2', n3'⟩ : ¬ sg = pg ∧ ¬ B = pg ∧ ¬ B = sg := ⟨fun e => n1 e.symm, fun e => n2 e.symm, fun e => n3 e.symm⟩
        have nbB := A4.sn.nb0
        have nbp := (A4.sn.op.lt pg rfl).1
        have nbs := (A4.sn.os.lt sg rfl).1
        obtain ⟨q1, q2, q3, q4, q5, q6⟩ : ¬ w.heap.size = B ∧ ¬ w.heap.size = pg ∧ ¬ w.heap.size = sg ∧ ¬ w.heap.size + 1 = B ∧ ¬ w.heap.size + 1 = pg ∧ ¬ w.heap.size + 1 = sg := by omega
        obtain ⟨q7, q8, q9⟩ : ¬ pb = B ∧ ¬ pb = pg ∧ ¬ pb = sg := by omega
        have HF := Lib.hid F4
        have HA := Lib.hid A4
        clear F4 A4 bx HF2 HOU HSK B0 HB4 hb4 hHeld HR0 HCW
        go_upto_region 15 with fail
        have ep := (HA.out.sn.op.cellAt x (by simp <;> omega)).trans (by simp [HX.out] : _ = some (.int .i64 v))
        have fp := HA.out.sn.op.frozenAt x
        go_still_tail 10, (by kernel_rfl)
        clear ep fp
        change wpList _ _ _ _ _ w4.drew
        have D : Below w4.heap.size w4 w4.drew := (Below.refl _ _).drew
        have HA2 := Lib.hid (HA.out.below D)
        have HF2 := Lib.hid (HF.out.step D)
        have d0' : w4.drew.cell? ⟨w.heap.size, 0, none⟩ = _ := d0
        have d1' : w4.drew.cell? ⟨w.heap.size, 1, none⟩ = _ := d1
        have d2' : w4.drew.cell? ⟨w.heap.size, 2, none⟩ = _ := d2
        have x0' : w4.drew.cell? ⟨w.heap.size + 1, 0, none⟩ = _ := x0
        have x1' : w4.drew.cell? ⟨w.heap.size + 1, 1, none⟩ = _ := x1
        have x2' : w4.drew.cell? ⟨w.heap.size + 1, 2, none⟩ = _ := x2
        have bf' : ∀ o, w4.drew.frozen? ⟨w.heap.size + 1, o, none⟩ = false := bf
        have pc' : w4.drew.cell? ⟨pb, po + 2, none⟩ = _ := pcell
        have zD' : w.heap.size + 1 < w4.drew.heap.size := zD
        have zE' : w.heap.size < w4.drew.heap.size := zE
        clear d0 d1 d2 x0 x1 x2 bf pcell zD zE k0 k1 k2 kf HA HF D
        generalize w4.drew = we at *
        have HA := HA2
        have HF := HF2
        have x0 := x0'
        have x1 := x1'
        have x2 := x2'
        have bf := bf'
        have zD := zD'
        have zE := zE'
        have d0 := d0'
        have d1 := d1'
        have d2 := d2'
        have pcell := pc'
        clear HA2 HF2 x0' x1' x2' bf' zD' zE' d0' d1' d2' pc'
        have k0 := HA.out.sn.c0
        have k1 := HA.out.sn.c1
        have k2 := HA.out.c2
        have kf := HA.out.fz
        simp only [Nat.zero_add] at k0 k1
        have ep := (HA.out.sn.op.cellAt x (by simp <;> omega)).trans (by simp [HX.out] : _ = some (.int .i64 v))
        have fp := HA.out.sn.op.frozenAt x
        go_upto_region 16 with fail
        have HA2 := Lib.hid (HA.out.pit x (v + c))
        have HB2 := Lib.hid (HF.out.low (show Below (w.heap.size + 1 + 1) we (we.setCell ⟨pg, x, none⟩ (.int .i64 (v + c))) from (Below.refl _ _).setCell nbp _) (by omega) (by simp))
        have d0' : (we.setCell ⟨pg, x, none⟩ (.int .i64 (v + c))).cell? ⟨w.heap.size, 0, none⟩ = _ := (cell_other (by omega)).trans d0
        have d1' : (we.setCell ⟨pg, x, none⟩ (.int .i64 (v + c))).cell? ⟨w.heap.size, 1, none⟩ = _ := (cell_other (by omega)).trans d1
        have d2' : (we.setCell ⟨pg, x, none⟩ (.int .i64 (v + c))).cell? ⟨w.heap.size, 2, none⟩ = _ := (cell_other (by omega)).trans d2
        have x0' : (we.setCell ⟨pg, x, none⟩ (.int .i64 (v + c))).cell? ⟨w.heap.size + 1, 0, none⟩ = _ := (cell_other (by omega)).trans x0
        have x1' : (we.setCell ⟨pg, x, none⟩ (.int .i64 (v + c))).cell? ⟨w.heap.size + 1, 1, none⟩ = _ := (cell_other (by omega)).trans x1
        have x2' : (we.setCell ⟨pg, x, none⟩ (.int .i64 (v + c))).cell? ⟨w.heap.size + 1, 2, none⟩ = _ := (cell_other (by omega)).trans x2
        have bf' : ∀ o, (we.setCell ⟨pg, x, none⟩ (.int .i64 (v + c))).frozen? ⟨w.heap.size + 1, o, none⟩ = false := fun o => by simpa using bf o
        have pc' : (we.setCell ⟨pg, x, none⟩ (.int .i64 (v + c))).cell? ⟨pb, po + 2, none⟩ = _ := (cell_other (by omega)).trans pcell
        have zD' : w.heap.size + 1 < (we.setCell ⟨pg, x, none⟩ (.int .i64 (v + c))).heap.size := by simp; exact zD
        have zE' : w.heap.size < (we.setCell ⟨pg, x, none⟩ (.int .i64 (v + c))).heap.size := by simp; exact zE
        clear d0 d1 d2 x0 x1 x2 bf pcell zD zE k0 k1 k2 kf HA HF
        generalize (we.setCell ⟨pg, x, none⟩ (.int .i64 (v + c))) = wf at *
        have HA := HA2
        have HF := HB2
        have x0 := x0'
        have x1 := x1'
        have x2 := x2'
        have bf := bf'
        have zD := zD'
        have zE := zE'
        have d0 := d0'
        have d1 := d1'
        have d2 := d2'
        have pcell := pc'
        clear HA2 HB2 x0' x1' x2' bf' zD' zE' d0' d1' d2' pc'
        have k0 := HA.out.sn.c0
        have k1 := HA.out.sn.c1
        have k2 := HA.out.c2
        have kf := HA.out.fz
        simp only [Nat.zero_add] at k0 k1
        have HO2 := Lib.hid (HA.out)
        have B1 := HF.out.below
        go_region
        go_wp2
        refine bodyPost_ret (v := .tuple #[P.val ⟨pits.set x (v + c), stores, pn⟩ (some ⟨pg, 0, none⟩) uc (some ⟨sg, 0, none⟩) vc, .int .i64 (hand - c), .bool true]) (by simp [results, Try.results57, go_sem, x0, x1, x2, bf, zD, P.val, P.cells]) rfl ?_
        refine ⟨?_, .inr ⟨_, ⟨_, _, _, _⟩, _, HS.out, rfl, ?_⟩⟩
        · repeat (first | (with_reducible exact B1) | ((with_reducible refine Below.setCell ?_ ?_ _); rotate_left; (simp <;> omega)) | (with_reducible refine Below.drew ?_) | (with_reducible exact Below.trans B1 (below_draws _ _ _)))
        have k9 := HO2.out.own (low := w.heap.size + 1 + 1) (Nat.le_refl _)
        refine ⟨?_, ?_, k9.apart⟩
        · have k0 := k9.pits
          dsimp only at k0 ⊢
          (try simp only [List.length_set] at k0)
          (try simp only [List.length_set])
          refine ownsRow_le (base := w.heap.size + 1 + 1) ?_ (by omega)
          repeat (first | (with_reducible exact k0) | (with_reducible refine World.ownsRow.drew ?_) | ((with_reducible refine ownsRow_setCell_below ?_ ?_ _); rotate_left; (simp <;> omega)))
        · have k0 := k9.stores
          dsimp only at k0 ⊢
          (try simp only [List.length_set] at k0)
          (try simp only [List.length_set])
          refine ownsRow_le (base := w.heap.size + 1 + 1) ?_ (by omega)
          repeat (first | (with_reducible exact k0) | (with_reducible refine World.ownsRow.drew ?_) | ((with_reducible refine ownsRow_setCell_below ?_ ?_ _); rotate_left; (simp <;> omega)))
  rw [if_neg k2] at hST
  have hX : ∃ x : Nat, pl = (x : Int) ∧ (x : Int) < 2 * r.pits := by
    rcases hk with ⟨_, h2, _⟩ | ⟨_, _, _, h2 | h2⟩
    · exact ⟨0, by simpa using h2, by simp; omega⟩
    · refine ⟨pl.toNat, by omega, ?_⟩
      rcases hHP with h | h | h | h
      · omega
      · omega
      · omega
      · omega
    · exact absurd h2.2 k2
  have hk3 : k = 1 ∨ k = 3 ∨ k = 4 ∨ k = 5 ∨ k = 6 := by omega
  have hc13 : k = 1 ∨ k = 3 → 1 ≤ c ∧ c ≤ 96 := by omega
  obtain ⟨x, rfl, hx2⟩ := hX
  have hd1 : decide (2 * r.pits ≤ (x : Int)) = false := by simp; omega
  have hd1' : ¬ 2 * r.pits ≤ (x : Int) := by omega
  have hd2 : decide ((x : Int) < 0) = false := by simp
  simp only [Int.toNat_natCast] at hST
  have hxl : x < pits.length := by omega
  have hxI : (x : Int) < (pits.length : Int) := by omega
  obtain ⟨v, hv⟩ : ∃ v, v = pits.getD x 0 := ⟨_, rfl⟩
  have hvb : 0 ≤ v ∧ v ≤ T := by rw [hv, List.getD_eq_getElem?_getD, List.getElem?_eq_getElem hxl]; exact hbp _ (List.getElem_mem hxl)
  obtain ⟨v0, vT⟩ := hvb
  have HX := Lib.hid (show pits[x]? = some v by rw [hv]; simp [hxl])
  rw [← hv] at hST
  clear hk hHP hlp hbp hv hx2
  by_cases hh : hand = 0
  case neg =>
    have HS := Lib.hid (hST.trans (if_pos hh))
    have hne : (hand == 0) = false := by simpa using hh
    have hne' : (hand != 0) = true := by simpa using hh
    clear hST hh k2 hc13
    rcases hk3 with rfl | rfl | rfl | rfl | rfl
    · go_enter Try.func57, Try.ntmps57
      go_wp2_with fail
      refine HOW.out.mono ?_
      rintro e w1 ⟨ua, uc, va, vc, rfl, ho, hb1⟩
      try simp only [World.size_alloc] at ho
      obtain ⟨pg, rfl, hp1, hp2⟩ := own_lt_n ho.pits HLP.out.1
      obtain ⟨sg, rfl, hs1, hs2⟩ := own_lt_n ho.stores HLP.out.2.1
      have zA : w.heap.size < w1.heap.size := (F0.step hb1).le 1 rfl
      have zB : w.heap.size + 1 < w1.heap.size := (F0.step hb1).le 0 rfl
      have F2 := (F0.step hb1).step (below_alloc1 w1 (.cells #[.slice (some ⟨pg, 0, none⟩) pits.length uc, .slice (some ⟨sg, 0, none⟩) stores.length vc, .int .i64 pn] 30))
      have HO2 := OuP.start (base := w.heap.size + 1 + 1) ho (Nat.le_refl _) zB 30
      obtain ⟨B, hB⟩ : ∃ B, B = w1.heap.size := ⟨_, rfl⟩
      obtain ⟨W2, hW2⟩ : ∃ W, W = (w1.alloc (.cells #[.slice (some ⟨pg, 0, none⟩) pits.length uc, .slice (some ⟨sg, 0, none⟩) stores.length vc, .int .i64 pn] 30)) := ⟨_, rfl⟩
      simp only at HO2
      rw [← hB, ← hW2] at HO2
      rw [← hW2] at F2
      have HF2 := Lib.hid F2
      have HOU := Lib.hid HO2
      have zC : w.heap.size < W2.heap.size := F2.le 1 rfl
      have HSK : Hid (∀ W, Below W2.heap.size W2 W → (W.cell? ⟨w.heap.size, 0, none⟩ = some (.int .i64 1) ∧ W.cell? ⟨w.heap.size, 1, none⟩ = some (.int .i64 x) ∧ W.cell? ⟨w.heap.size, 2, none⟩ = some (.int .i64 c) ∧ W.cell? ⟨rb, ro, none⟩ = some (.int .i64 r.pits) ∧ W.cell? ⟨rb, ro + 2, none⟩ = some (.bool r.stores))) := fun W hW => ⟨((bcell hW).1 _ _ zC).trans (HF2.out.at 1 rfl 0 _ rfl), ((bcell hW).1 _ _ zC).trans (HF2.out.at 1 rfl 1 _ rfl), ((bcell hW).1 _ _ zC).trans (HF2.out.at 1 rfl 2 _ rfl), (HR0.out _ (HF2.out.step hW).below).1, (HR0.out _ (HF2.out.step hW).below).2.1⟩
      have B0 : Hid (Below W2.heap.size W2 W2.drew) := (Below.refl _ _).drew
      clear ho hb1 F0 F2 HO2 hp1 hp2 hs1 hs2 zA zB HOW
      go_wp2_with fail
      try rw [← hW2]
      try simp only [← hB]
      clear hW2 hB
      refine heldH (S := fun W => W.cell? ⟨w.heap.size, 0, none⟩ = some (.int .i64 1) ∧ W.cell? ⟨w.heap.size, 1, none⟩ = some (.int .i64 x) ∧ W.cell? ⟨w.heap.size, 2, none⟩ = some (.int .i64 c) ∧ W.cell? ⟨rb, ro, none⟩ = some (.int .i64 r.pits) ∧ W.cell? ⟨rb, ro + 2, none⟩ = some (.bool r.stores)) (n := 25) (listed := #[false, false, false, false, false, false, false, false, false, false, false, false, false, false, false, false, false, false, false, false, false, false, false, false, false]) (by kernel_rfl) (by rfl) (by rfl) ?_ (fun hHeld => ?_)
      (focus ((try dsimp only); (first | done | (((refine HSK.out _ ?_; first | (with_reducible exact HB4.out) | exact B0.out)); done))))
      (refine takeH (i := 0) (v := ?_) (by decide +kernel) (by decide +kernel) (by kernel_rfl) (by rfl) (by exact fun _ _ _ h => h) (by rfl) ?_ (by assumption) ?_); rotate_left; (focus (intro w hSw; (try dsimp only at hSw); go_simp; (try with_reducible rfl); done)); (try simp only [Act.put, List.setIfInBounds_toArray, List.set_cons_zero, List.set_cons_succ])
      refine nextH (i := 1) (by decide +kernel) (by rfl) (by rfl) (fun K hK => ?_)
      go_simp
      ((go_at_call 106; (refine (HCW.out _).mono ?_); (rintro e w4 ⟨rfl, hb4⟩); (have HB4 := Lib.hid (below_next B0.out hb4))))
      refine hK.out _ _ ?_ (fun hHeld' => ?_)
      (focus ((try dsimp only); (first | done | (((refine HSK.out _ ?_; first | (with_reducible exact HB4.out) | exact B0.out)); done))))
      clear hK K hHeld
      have hHeld := hHeld'
      clear hHeld'
      (try simp only [Act.put, List.setIfInBounds_toArray, List.set_cons_zero, List.set_cons_succ])
      (refine takeH (i := 2) (v := ?_) (by decide +kernel) (by decide +kernel) (by kernel_rfl) (by rfl) (by exact fun _ _ _ h => h) (by rfl) ?_ (by assumption) ?_); rotate_left; (focus (intro w hSw; (try dsimp only at hSw); go_simp; (try with_reducible rfl); done)); (try simp only [Act.put, List.setIfInBounds_toArray, List.set_cons_zero, List.set_cons_succ])
      (refine takeH (i := 3) (v := ?_) (by decide +kernel) (by decide +kernel) (by kernel_rfl) (by rfl) (by exact fun _ _ _ h => h) (by rfl) ?_ (by assumption) ?_); rotate_left; (focus (intro w hSw; (try dsimp only at hSw); go_simp; (try with_reducible rfl); done)); (try simp only [Act.put, List.setIfInBounds_toArray, List.set_cons_zero, List.set_cons_succ])
      (refine takeH (i := 4) (v := ?_) (by decide +kernel) (by decide +kernel) (by kernel_rfl) (by rfl) (by exact fun _ _ _ h => h) (by rfl) ?_ (by assumption) ?_); rotate_left; (focus (intro w hSw; (try dsimp only at hSw); go_simp; (try with_reducible rfl); done)); (try simp only [Act.put, List.setIfInBounds_toArray, List.set_cons_zero, List.set_cons_succ])
      (refine takeH (i := 5) (v := ?_) (by decide +kernel) (by decide +kernel) (by kernel_rfl) (by rfl) (by exact fun _ _ _ h => h) (by rfl) ?_ (by assumption) ?_); rotate_left; (focus (intro w hSw; (try dsimp only at hSw); go_simp; (try with_reducible rfl); done)); (try simp only [Act.put, List.setIfInBounds_toArray, List.set_cons_zero, List.set_cons_succ])
      (refine takeH (i := 6) (v := ?_) (by decide +kernel) (by decide +kernel) (by kernel_rfl) (by rfl) (by exact fun _ _ _ h => h) (by rfl) ?_ (by assumption) ?_); rotate_left; (focus (intro w hSw; (try dsimp only at hSw); go_simp; (try with_reducible rfl); done)); (try simp only [Act.put, List.setIfInBounds_toArray, List.set_cons_zero, List.set_cons_succ])
      (refine takeH (i := 7) (v := ?_) (by decide +kernel) (by decide +kernel) (by kernel_rfl) (by rfl) (by exact fun _ _ _ h => h) (by rfl) ?_ (by assumption) ?_); rotate_left; (focus (intro w hSw; (try dsimp only at hSw); go_simp; (try with_reducible rfl); done)); (try simp only [Act.put, List.setIfInBounds_toArray, List.set_cons_zero, List.set_cons_succ])
      (refine takeH (i := 8) (v := ?_) (by decide +kernel) (by decide +kernel) (by kernel_rfl) (by rfl) (by exact fun _ _ _ h => h) (by rfl) ?_ (by assumption) ?_); rotate_left; (focus (intro w hSw; (try dsimp only at hSw); go_simp; (try with_reducible rfl); done)); (try simp only [Act.put, List.setIfInBounds_toArray, List.set_cons_zero, List.set_cons_succ])
      (refine takeH (i := 9) (v := ?_) (by decide +kernel) (by decide +kernel) (by kernel_rfl) (by rfl) (by exact fun _ _ _ h => h) (by rfl) ?_ (by assumption) ?_); rotate_left; (focus (intro w hSw; (try dsimp only at hSw); go_simp; (try with_reducible rfl); done)); (try simp only [Act.put, List.setIfInBounds_toArray, List.set_cons_zero, List.set_cons_succ])
      (refine takeH (i := 10) (v := ?_) (by decide +kernel) (by decide +kernel) (by kernel_rfl) (by rfl) (by exact fun _ _ _ h => h) (by rfl) ?_ (by assumption) ?_); rotate_left; (focus (intro w hSw; (try dsimp only at hSw); go_simp; (try with_reducible rfl); done)); (try simp only [Act.put, List.setIfInBounds_toArray, List.set_cons_zero, List.set_cons_succ])
      (refine takeH (i := 11) (v := ?_) (by decide +kernel) (by decide +kernel) (by kernel_rfl) (by rfl) (by exact fun _ _ _ h => h) (by rfl) ?_ (by assumption) ?_); rotate_left; (focus (intro w hSw; (try dsimp only at hSw); go_simp; (try with_reducible rfl); done)); (try simp only [Act.put, List.setIfInBounds_toArray, List.set_cons_zero, List.set_cons_succ])
      (refine takeH (i := 12) (v := ?_) (by decide +kernel) (by decide +kernel) (by kernel_rfl) (by rfl) (by exact fun _ _ _ h => h) (by rfl) ?_ (by assumption) ?_); rotate_left; (focus (intro w hSw; (try dsimp only at hSw); go_simp; (try with_reducible rfl); done)); (try simp only [Act.put, List.setIfInBounds_toArray, List.set_cons_zero, List.set_cons_succ])
      (refine takeH (i := 13) (v := ?_) (by decide +kernel) (by decide +kernel) (by kernel_rfl) (by rfl) (by exact fun _ _ _ h => h) (by rfl) ?_ (by assumption) ?_); rotate_left; (focus (intro w hSw; (try dsimp only at hSw); go_simp; (try with_reducible rfl); done)); (try simp only [Act.put, List.setIfInBounds_toArray, List.set_cons_zero, List.set_cons_succ])
      (refine takeH (i := 14) (v := ?_) (by decide +kernel) (by decide +kernel) (by kernel_rfl) (by rfl) (by exact fun _ _ _ h => h) (by rfl) ?_ (by assumption) ?_); rotate_left; (focus (intro w hSw; (try dsimp only at hSw); go_simp; (try with_reducible rfl); done)); (try simp only [Act.put, List.setIfInBounds_toArray, List.set_cons_zero, List.set_cons_succ])
      (refine takeH (i := 15) (v := ?_) (by decide +kernel) (by decide +kernel) (by kernel_rfl) (by rfl) (by exact fun _ _ _ h => h) (by rfl) ?_ (by assumption) ?_); rotate_left; (focus (intro w hSw; (try dsimp only at hSw); go_simp; (try with_reducible rfl); done)); (try simp only [Act.put, List.setIfInBounds_toArray, List.set_cons_zero, List.set_cons_succ])
      (refine takeH (i := 16) (v := ?_) (by decide +kernel) (by decide +kernel) (by kernel_rfl) (by rfl) (by exact fun _ _ _ h => h) (by rfl) ?_ (by assumption) ?_); rotate_left; (focus (intro w hSw; (try dsimp only at hSw); go_simp; (try with_reducible rfl); done)); (try simp only [Act.put, List.setIfInBounds_toArray, List.set_cons_zero, List.set_cons_succ])
      (refine takeH (i := 17) (v := ?_) (by decide +kernel) (by decide +kernel) (by kernel_rfl) (by rfl) (by exact fun _ _ _ h => h) (by rfl) ?_ (by assumption) ?_); rotate_left; (focus (intro w hSw; (try dsimp only at hSw); go_simp; (try with_reducible rfl); done)); (try simp only [Act.put, List.setIfInBounds_toArray, List.set_cons_zero, List.set_cons_succ])
      ((refine skipH (i := 18) (by decide +kernel) (by decide +kernel) (by kernel_rfl) (by rfl) (by exact fun _ _ _ h => h) (by rfl) (by assumption) ?_); (try simp only [Act.put, List.setIfInBounds_toArray, List.set_cons_zero, List.set_cons_succ]))
      ((refine skipH (i := 19) (by decide +kernel) (by decide +kernel) (by kernel_rfl) (by rfl) (by exact fun _ _ _ h => h) (by rfl) (by assumption) ?_); (try simp only [Act.put, List.setIfInBounds_toArray, List.set_cons_zero, List.set_cons_succ]))
      ((refine skipH (i := 20) (by decide +kernel) (by decide +kernel) (by kernel_rfl) (by rfl) (by exact fun _ _ _ h => h) (by rfl) (by assumption) ?_); (try simp only [Act.put, List.setIfInBounds_toArray, List.set_cons_zero, List.set_cons_succ]))
      ((refine skipH (i := 21) (by decide +kernel) (by decide +kernel) (by kernel_rfl) (by rfl) (by exact fun _ _ _ h => h) (by rfl) (by assumption) ?_); (try simp only [Act.put, List.setIfInBounds_toArray, List.set_cons_zero, List.set_cons_succ]))
      ((refine skipH (i := 22) (by decide +kernel) (by decide +kernel) (by kernel_rfl) (by rfl) (by exact fun _ _ _ h => h) (by rfl) (by assumption) ?_); (try simp only [Act.put, List.setIfInBounds_toArray, List.set_cons_zero, List.set_cons_succ]))
      (refine takeH (i := 23) (v := ?_) (by decide +kernel) (by decide +kernel) (by kernel_rfl) (by rfl) (by exact fun _ _ _ h => h) (by rfl) ?_ (by assumption) ?_); rotate_left; (focus (intro w hSw; (try dsimp only at hSw); go_simp; (try with_reducible rfl); done)); (try simp only [Act.put, List.setIfInBounds_toArray, List.set_cons_zero, List.set_cons_succ])
      (refine takeH (i := 24) (v := ?_) (by decide +kernel) (by decide +kernel) (by kernel_rfl) (by rfl) (by exact fun _ _ _ h => h) (by rfl) ?_ (by assumption) ?_); rotate_left; (focus (intro w hSw; (try dsimp only at hSw); go_simp; (try with_reducible rfl); done)); (try simp only [Act.put, List.setIfInBounds_toArray, List.set_cons_zero, List.set_cons_succ])
      refine wpAnyH_done (by decide +kernel) ?_ _
      have F4 := HF2.out.step HB4.out
      have A4 := HOU.out.below HB4.out
      obtain ⟨bx, bf⟩ := F4.at 0 rfl
      obtain ⟨x0, x1, x2⟩ := (⟨bx 0 _ rfl, bx 1 _ rfl, bx 2 _ rfl⟩ : _ ∧ _ ∧ _)
      obtain ⟨d0, d1, d2⟩ := (⟨F4.at 1 rfl 0 _ rfl, F4.at 1 rfl 1 _ rfl, F4.at 1 rfl 2 _ rfl⟩ : _ ∧ _ ∧ _)
      have zD : w.heap.size + 1 < w4.heap.size := F4.le 0 rfl
      have zE : w.heap.size < w4.heap.size := F4.le 1 rfl
      have pcell := (HR0.out _ F4.below).2.2
      have k0 := A4.sn.c0
      have k1 := A4.sn.c1
      have k2 := A4.c2
      have kf := A4.fz
      simp only [Nat.zero_add] at k0 k1
      have n1 := A4.sn.n1
      have n2 := A4.sn.n2
      have n3 := A4.sn.n3
      obtain ⟨n1', n2', n3'⟩ : ¬ sg = pg ∧ ¬ B = pg ∧ ¬ B = sg := ⟨fun e => n1 e.symm, fun e => n2 e.symm, fun e => n3 e.symm⟩
      have nbB := A4.sn.nb0
      have nbp := (A4.sn.op.lt pg rfl).1
      have nbs := (A4.sn.os.lt sg rfl).1
      obtain ⟨q1, q2, q3, q4, q5, q6⟩ : ¬ w.heap.size = B ∧ ¬ w.heap.size = pg ∧ ¬ w.heap.size = sg ∧ ¬ w.heap.size + 1 = B ∧ ¬ w.heap.size + 1 = pg ∧ ¬ w.heap.size + 1 = sg := by omega
      obtain ⟨q7, q8, q9⟩ : ¬ pb = B ∧ ¬ pb = pg ∧ ¬ pb = sg := by omega
      have HF := Lib.hid F4
      have HA := Lib.hid A4
      clear F4 A4 bx HF2 HOU HSK B0 HB4 hb4 hHeld HR0 HCW
      have B1 := HF.out.below
      go_wp2
      go_quiet (fail)
      go_wp2
      refine bodyPost_ret (v := .tuple #[P.val ⟨pits, stores, pn⟩ (some ⟨pg, 0, none⟩) uc (some ⟨sg, 0, none⟩) vc, .int .i64 0, .bool false]) (by simp [results, Try.results57, go_sem, x0, x1, x2, bf, zD, P.val, P.cells]) rfl ?_
      refine ⟨?_, .inl ⟨HS.out, _, ⟨_, _, _, _⟩, _, rfl⟩⟩
      repeat (first | (with_reducible exact B1) | ((with_reducible refine Below.setCell ?_ ?_ _); rotate_left; (simp <;> omega)) | (with_reducible refine Below.drew ?_) | (with_reducible exact Below.trans B1 (below_draws _ _ _)))
    · go_enter Try.func57, Try.ntmps57
      go_wp2_with fail
      refine HOW.out.mono ?_
      rintro e w1 ⟨ua, uc, va, vc, rfl, ho, hb1⟩
      try simp only [World.size_alloc] at ho
      obtain ⟨pg, rfl, hp1, hp2⟩ := own_lt_n ho.pits HLP.out.1
      obtain ⟨sg, rfl, hs1, hs2⟩ := own_lt_n ho.stores HLP.out.2.1
      have zA : w.heap.size < w1.heap.size := (F0.step hb1).le 1 rfl
      have zB : w.heap.size + 1 < w1.heap.size := (F0.step hb1).le 0 rfl
      have F2 := (F0.step hb1).step (below_alloc1 w1 (.cells #[.slice (some ⟨pg, 0, none⟩) pits.length uc, .slice (some ⟨sg, 0, none⟩) stores.length vc, .int .i64 pn] 30))
      have HO2 := OuP.start (base := w.heap.size + 1 + 1) ho (Nat.le_refl _) zB 30
      obtain ⟨B, hB⟩ : ∃ B, B = w1.heap.size := ⟨_, rfl⟩
      obtain ⟨W2, hW2⟩ : ∃ W, W = (w1.alloc (.cells #[.slice (some ⟨pg, 0, none⟩) pits.length uc, .slice (some ⟨sg, 0, none⟩) stores.length vc, .int .i64 pn] 30)) := ⟨_, rfl⟩
      simp only at HO2
      rw [← hB, ← hW2] at HO2
      rw [← hW2] at F2
      have HF2 := Lib.hid F2
      have HOU := Lib.hid HO2
      have zC : w.heap.size < W2.heap.size := F2.le 1 rfl
      have HSK : Hid (∀ W, Below W2.heap.size W2 W → (W.cell? ⟨w.heap.size, 0, none⟩ = some (.int .i64 3) ∧ W.cell? ⟨w.heap.size, 1, none⟩ = some (.int .i64 x) ∧ W.cell? ⟨w.heap.size, 2, none⟩ = some (.int .i64 c) ∧ W.cell? ⟨rb, ro, none⟩ = some (.int .i64 r.pits) ∧ W.cell? ⟨rb, ro + 2, none⟩ = some (.bool r.stores))) := fun W hW => ⟨((bcell hW).1 _ _ zC).trans (HF2.out.at 1 rfl 0 _ rfl), ((bcell hW).1 _ _ zC).trans (HF2.out.at 1 rfl 1 _ rfl), ((bcell hW).1 _ _ zC).trans (HF2.out.at 1 rfl 2 _ rfl), (HR0.out _ (HF2.out.step hW).below).1, (HR0.out _ (HF2.out.step hW).below).2.1⟩
      have B0 : Hid (Below W2.heap.size W2 W2.drew) := (Below.refl _ _).drew
      clear ho hb1 F0 F2 HO2 hp1 hp2 hs1 hs2 zA zB HOW
      go_wp2_with fail
      try rw [← hW2]
      try simp only [← hB]
      clear hW2 hB
      refine heldH (S := fun W => W.cell? ⟨w.heap.size, 0, none⟩ = some (.int .i64 3) ∧ W.cell? ⟨w.heap.size, 1, none⟩ = some (.int .i64 x) ∧ W.cell? ⟨w.heap.size, 2, none⟩ = some (.int .i64 c) ∧ W.cell? ⟨rb, ro, none⟩ = some (.int .i64 r.pits) ∧ W.cell? ⟨rb, ro + 2, none⟩ = some (.bool r.stores)) (n := 25) (listed := #[false, false, false, false, false, false, false, false, false, false, false, false, false, false, false, false, false, false, false, false, false, false, false, false, false]) (by kernel_rfl) (by rfl) (by rfl) ?_ (fun hHeld => ?_)
      (focus ((try dsimp only); (first | done | (((refine HSK.out _ ?_; first | (with_reducible exact HB4.out) | exact B0.out)); done))))
      (refine takeH (i := 0) (v := ?_) (by decide +kernel) (by decide +kernel) (by kernel_rfl) (by rfl) (by exact fun _ _ _ h => h) (by rfl) ?_ (by assumption) ?_); rotate_left; (focus (intro w hSw; (try dsimp only at hSw); go_simp; (try with_reducible rfl); done)); (try simp only [Act.put, List.setIfInBounds_toArray, List.set_cons_zero, List.set_cons_succ])
      refine nextH (i := 1) (by decide +kernel) (by rfl) (by rfl) (fun K hK => ?_)
      go_simp
      ((go_at_call 106; (refine (HCW.out _).mono ?_); (rintro e w4 ⟨rfl, hb4⟩); (have HB4 := Lib.hid (below_next B0.out hb4))))
      refine hK.out _ _ ?_ (fun hHeld' => ?_)
      (focus ((try dsimp only); (first | done | (((refine HSK.out _ ?_; first | (with_reducible exact HB4.out) | exact B0.out)); done))))
      clear hK K hHeld
      have hHeld := hHeld'
      clear hHeld'
      (try simp only [Act.put, List.setIfInBounds_toArray, List.set_cons_zero, List.set_cons_succ])
      (refine takeH (i := 2) (v := ?_) (by decide +kernel) (by decide +kernel) (by kernel_rfl) (by rfl) (by exact fun _ _ _ h => h) (by rfl) ?_ (by assumption) ?_); rotate_left; (focus (intro w hSw; (try dsimp only at hSw); go_simp; (try with_reducible rfl); done)); (try simp only [Act.put, List.setIfInBounds_toArray, List.set_cons_zero, List.set_cons_succ])
      (refine takeH (i := 3) (v := ?_) (by decide +kernel) (by decide +kernel) (by kernel_rfl) (by rfl) (by exact fun _ _ _ h => h) (by rfl) ?_ (by assumption) ?_); rotate_left; (focus (intro w hSw; (try dsimp only at hSw); go_simp; (try with_reducible rfl); done)); (try simp only [Act.put, List.setIfInBounds_toArray, List.set_cons_zero, List.set_cons_succ])
      (refine takeH (i := 4) (v := ?_) (by decide +kernel) (by decide +kernel) (by kernel_rfl) (by rfl) (by exact fun _ _ _ h => h) (by rfl) ?_ (by assumption) ?_); rotate_left; (focus (intro w hSw; (try dsimp only at hSw); go_simp; (try with_reducible rfl); done)); (try simp only [Act.put, List.setIfInBounds_toArray, List.set_cons_zero, List.set_cons_succ])
      (refine takeH (i := 5) (v := ?_) (by decide +kernel) (by decide +kernel) (by kernel_rfl) (by rfl) (by exact fun _ _ _ h => h) (by rfl) ?_ (by assumption) ?_); rotate_left; (focus (intro w hSw; (try dsimp only at hSw); go_simp; (try with_reducible rfl); done)); (try simp only [Act.put, List.setIfInBounds_toArray, List.set_cons_zero, List.set_cons_succ])
      (refine takeH (i := 6) (v := ?_) (by decide +kernel) (by decide +kernel) (by kernel_rfl) (by rfl) (by exact fun _ _ _ h => h) (by rfl) ?_ (by assumption) ?_); rotate_left; (focus (intro w hSw; (try dsimp only at hSw); go_simp; (try with_reducible rfl); done)); (try simp only [Act.put, List.setIfInBounds_toArray, List.set_cons_zero, List.set_cons_succ])
      (refine takeH (i := 7) (v := ?_) (by decide +kernel) (by decide +kernel) (by kernel_rfl) (by rfl) (by exact fun _ _ _ h => h) (by rfl) ?_ (by assumption) ?_); rotate_left; (focus (intro w hSw; (try dsimp only at hSw); go_simp; (try with_reducible rfl); done)); (try simp only [Act.put, List.setIfInBounds_toArray, List.set_cons_zero, List.set_cons_succ])
      (refine takeH (i := 8) (v := ?_) (by decide +kernel) (by decide +kernel) (by kernel_rfl) (by rfl) (by exact fun _ _ _ h => h) (by rfl) ?_ (by assumption) ?_); rotate_left; (focus (intro w hSw; (try dsimp only at hSw); go_simp; (try with_reducible rfl); done)); (try simp only [Act.put, List.setIfInBounds_toArray, List.set_cons_zero, List.set_cons_succ])
      (refine takeH (i := 9) (v := ?_) (by decide +kernel) (by decide +kernel) (by kernel_rfl) (by rfl) (by exact fun _ _ _ h => h) (by rfl) ?_ (by assumption) ?_); rotate_left; (focus (intro w hSw; (try dsimp only at hSw); go_simp; (try with_reducible rfl); done)); (try simp only [Act.put, List.setIfInBounds_toArray, List.set_cons_zero, List.set_cons_succ])
      (refine takeH (i := 10) (v := ?_) (by decide +kernel) (by decide +kernel) (by kernel_rfl) (by rfl) (by exact fun _ _ _ h => h) (by rfl) ?_ (by assumption) ?_); rotate_left; (focus (intro w hSw; (try dsimp only at hSw); go_simp; (try with_reducible rfl); done)); (try simp only [Act.put, List.setIfInBounds_toArray, List.set_cons_zero, List.set_cons_succ])
      (refine takeH (i := 11) (v := ?_) (by decide +kernel) (by decide +kernel) (by kernel_rfl) (by rfl) (by exact fun _ _ _ h => h) (by rfl) ?_ (by assumption) ?_); rotate_left; (focus (intro w hSw; (try dsimp only at hSw); go_simp; (try with_reducible rfl); done)); (try simp only [Act.put, List.setIfInBounds_toArray, List.set_cons_zero, List.set_cons_succ])
      (refine takeH (i := 12) (v := ?_) (by decide +kernel) (by decide +kernel) (by kernel_rfl) (by rfl) (by exact fun _ _ _ h => h) (by rfl) ?_ (by assumption) ?_); rotate_left; (focus (intro w hSw; (try dsimp only at hSw); go_simp; (try with_reducible rfl); done)); (try simp only [Act.put, List.setIfInBounds_toArray, List.set_cons_zero, List.set_cons_succ])
      (refine takeH (i := 13) (v := ?_) (by decide +kernel) (by decide +kernel) (by kernel_rfl) (by rfl) (by exact fun _ _ _ h => h) (by rfl) ?_ (by assumption) ?_); rotate_left; (focus (intro w hSw; (try dsimp only at hSw); go_simp; (try with_reducible rfl); done)); (try simp only [Act.put, List.setIfInBounds_toArray, List.set_cons_zero, List.set_cons_succ])
      (refine takeH (i := 14) (v := ?_) (by decide +kernel) (by decide +kernel) (by kernel_rfl) (by rfl) (by exact fun _ _ _ h => h) (by rfl) ?_ (by assumption) ?_); rotate_left; (focus (intro w hSw; (try dsimp only at hSw); go_simp; (try with_reducible rfl); done)); (try simp only [Act.put, List.setIfInBounds_toArray, List.set_cons_zero, List.set_cons_succ])
      (refine takeH (i := 15) (v := ?_) (by decide +kernel) (by decide +kernel) (by kernel_rfl) (by rfl) (by exact fun _ _ _ h => h) (by rfl) ?_ (by assumption) ?_); rotate_left; (focus (intro w hSw; (try dsimp only at hSw); go_simp; (try with_reducible rfl); done)); (try simp only [Act.put, List.setIfInBounds_toArray, List.set_cons_zero, List.set_cons_succ])
      (refine takeH (i := 16) (v := ?_) (by decide +kernel) (by decide +kernel) (by kernel_rfl) (by rfl) (by exact fun _ _ _ h => h) (by rfl) ?_ (by assumption) ?_); rotate_left; (focus (intro w hSw; (try dsimp only at hSw); go_simp; (try with_reducible rfl); done)); (try simp only [Act.put, List.setIfInBounds_toArray, List.set_cons_zero, List.set_cons_succ])
      (refine takeH (i := 17) (v := ?_) (by decide +kernel) (by decide +kernel) (by kernel_rfl) (by rfl) (by exact fun _ _ _ h => h) (by rfl) ?_ (by assumption) ?_); rotate_left; (focus (intro w hSw; (try dsimp only at hSw); go_simp; (try with_reducible rfl); done)); (try simp only [Act.put, List.setIfInBounds_toArray, List.set_cons_zero, List.set_cons_succ])
      ((refine skipH (i := 18) (by decide +kernel) (by decide +kernel) (by kernel_rfl) (by rfl) (by exact fun _ _ _ h => h) (by rfl) (by assumption) ?_); (try simp only [Act.put, List.setIfInBounds_toArray, List.set_cons_zero, List.set_cons_succ]))
      ((refine skipH (i := 19) (by decide +kernel) (by decide +kernel) (by kernel_rfl) (by rfl) (by exact fun _ _ _ h => h) (by rfl) (by assumption) ?_); (try simp only [Act.put, List.setIfInBounds_toArray, List.set_cons_zero, List.set_cons_succ]))
      ((refine skipH (i := 20) (by decide +kernel) (by decide +kernel) (by kernel_rfl) (by rfl) (by exact fun _ _ _ h => h) (by rfl) (by assumption) ?_); (try simp only [Act.put, List.setIfInBounds_toArray, List.set_cons_zero, List.set_cons_succ]))
      ((refine skipH (i := 21) (by decide +kernel) (by decide +kernel) (by kernel_rfl) (by rfl) (by exact fun _ _ _ h => h) (by rfl) (by assumption) ?_); (try simp only [Act.put, List.setIfInBounds_toArray, List.set_cons_zero, List.set_cons_succ]))
      ((refine skipH (i := 22) (by decide +kernel) (by decide +kernel) (by kernel_rfl) (by rfl) (by exact fun _ _ _ h => h) (by rfl) (by assumption) ?_); (try simp only [Act.put, List.setIfInBounds_toArray, List.set_cons_zero, List.set_cons_succ]))
      (refine takeH (i := 23) (v := ?_) (by decide +kernel) (by decide +kernel) (by kernel_rfl) (by rfl) (by exact fun _ _ _ h => h) (by rfl) ?_ (by assumption) ?_); rotate_left; (focus (intro w hSw; (try dsimp only at hSw); go_simp; (try with_reducible rfl); done)); (try simp only [Act.put, List.setIfInBounds_toArray, List.set_cons_zero, List.set_cons_succ])
      (refine takeH (i := 24) (v := ?_) (by decide +kernel) (by decide +kernel) (by kernel_rfl) (by rfl) (by exact fun _ _ _ h => h) (by rfl) ?_ (by assumption) ?_); rotate_left; (focus (intro w hSw; (try dsimp only at hSw); go_simp; (try with_reducible rfl); done)); (try simp only [Act.put, List.setIfInBounds_toArray, List.set_cons_zero, List.set_cons_succ])
      refine wpAnyH_done (by decide +kernel) ?_ _
      have F4 := HF2.out.step HB4.out
      have A4 := HOU.out.below HB4.out
      obtain ⟨bx, bf⟩ := F4.at 0 rfl
      obtain ⟨x0, x1, x2⟩ := (⟨bx 0 _ rfl, bx 1 _ rfl, bx 2 _ rfl⟩ : _ ∧ _ ∧ _)
      obtain ⟨d0, d1, d2⟩ := (⟨F4.at 1 rfl 0 _ rfl, F4.at 1 rfl 1 _ rfl, F4.at 1 rfl 2 _ rfl⟩ : _ ∧ _ ∧ _)
      have zD : w.heap.size + 1 < w4.heap.size := F4.le 0 rfl
      have zE : w.heap.size < w4.heap.size := F4.le 1 rfl
      have pcell := (HR0.out _ F4.below).2.2
      have k0 := A4.sn.c0
      have k1 := A4.sn.c1
      have k2 := A4.c2
      have kf := A4.fz
      simp only [Nat.zero_add] at k0 k1
      have n1 := A4.sn.n1
      have n2 := A4.sn.n2
      have n3 := A4.sn.n3
      obtain ⟨n1', n2', n3'⟩ : ¬ sg = pg ∧ ¬ B = pg ∧ ¬ B = sg := ⟨fun e => n1 e.symm, fun e => n2 e.symm, fun e => n3 e.symm⟩
      have nbB := A4.sn.nb0
      have nbp := (A4.sn.op.lt pg rfl).1
      have nbs := (A4.sn.os.lt sg rfl).1
      obtain ⟨q1, q2, q3, q4, q5, q6⟩ : ¬ w.heap.size = B ∧ ¬ w.heap.size = pg ∧ ¬ w.heap.size = sg ∧ ¬ w.heap.size + 1 = B ∧ ¬ w.heap.size + 1 = pg ∧ ¬ w.heap.size + 1 = sg := by omega
      obtain ⟨q7, q8, q9⟩ : ¬ pb = B ∧ ¬ pb = pg ∧ ¬ pb = sg := by omega
      have HF := Lib.hid F4
      have HA := Lib.hid A4
      clear F4 A4 bx HF2 HOU HSK B0 HB4 hb4 hHeld HR0 HCW
      have B1 := HF.out.below
      go_wp2
      go_quiet (fail)
      go_wp2
      refine bodyPost_ret (v := .tuple #[P.val ⟨pits, stores, pn⟩ (some ⟨pg, 0, none⟩) uc (some ⟨sg, 0, none⟩) vc, .int .i64 0, .bool false]) (by simp [results, Try.results57, go_sem, x0, x1, x2, bf, zD, P.val, P.cells]) rfl ?_
      refine ⟨?_, .inl ⟨HS.out, _, ⟨_, _, _, _⟩, _, rfl⟩⟩
      repeat (first | (with_reducible exact B1) | ((with_reducible refine Below.setCell ?_ ?_ _); rotate_left; (simp <;> omega)) | (with_reducible refine Below.drew ?_) | (with_reducible exact Below.trans B1 (below_draws _ _ _)))
    · go_enter Try.func57, Try.ntmps57
      go_wp2_with fail
      refine HOW.out.mono ?_
      rintro e w1 ⟨ua, uc, va, vc, rfl, ho, hb1⟩
      try simp only [World.size_alloc] at ho
      obtain ⟨pg, rfl, hp1, hp2⟩ := own_lt_n ho.pits HLP.out.1
      obtain ⟨sg, rfl, hs1, hs2⟩ := own_lt_n ho.stores HLP.out.2.1
      have zA : w.heap.size < w1.heap.size := (F0.step hb1).le 1 rfl
      have zB : w.heap.size + 1 < w1.heap.size := (F0.step hb1).le 0 rfl
      have F2 := (F0.step hb1).step (below_alloc1 w1 (.cells #[.slice (some ⟨pg, 0, none⟩) pits.length uc, .slice (some ⟨sg, 0, none⟩) stores.length vc, .int .i64 pn] 30))
      have HO2 := OuP.start (base := w.heap.size + 1 + 1) ho (Nat.le_refl _) zB 30
      obtain ⟨B, hB⟩ : ∃ B, B = w1.heap.size := ⟨_, rfl⟩
      obtain ⟨W2, hW2⟩ : ∃ W, W = (w1.alloc (.cells #[.slice (some ⟨pg, 0, none⟩) pits.length uc, .slice (some ⟨sg, 0, none⟩) stores.length vc, .int .i64 pn] 30)) := ⟨_, rfl⟩
      simp only at HO2
      rw [← hB, ← hW2] at HO2
      rw [← hW2] at F2
      have HF2 := Lib.hid F2
      have HOU := Lib.hid HO2
      have zC : w.heap.size < W2.heap.size := F2.le 1 rfl
      have HSK : Hid (∀ W, Below W2.heap.size W2 W → (W.cell? ⟨w.heap.size, 0, none⟩ = some (.int .i64 4) ∧ W.cell? ⟨w.heap.size, 1, none⟩ = some (.int .i64 x) ∧ W.cell? ⟨w.heap.size, 2, none⟩ = some (.int .i64 c) ∧ W.cell? ⟨rb, ro, none⟩ = some (.int .i64 r.pits) ∧ W.cell? ⟨rb, ro + 2, none⟩ = some (.bool r.stores))) := fun W hW => ⟨((bcell hW).1 _ _ zC).trans (HF2.out.at 1 rfl 0 _ rfl), ((bcell hW).1 _ _ zC).trans (HF2.out.at 1 rfl 1 _ rfl), ((bcell hW).1 _ _ zC).trans (HF2.out.at 1 rfl 2 _ rfl), (HR0.out _ (HF2.out.step hW).below).1, (HR0.out _ (HF2.out.step hW).below).2.1⟩
      have B0 : Hid (Below W2.heap.size W2 W2.drew) := (Below.refl _ _).drew
      clear ho hb1 F0 F2 HO2 hp1 hp2 hs1 hs2 zA zB HOW
      go_wp2_with fail
      try rw [← hW2]
      try simp only [← hB]
      clear hW2 hB
      refine heldH (S := fun W => W.cell? ⟨w.heap.size, 0, none⟩ = some (.int .i64 4) ∧ W.cell? ⟨w.heap.size, 1, none⟩ = some (.int .i64 x) ∧ W.cell? ⟨w.heap.size, 2, none⟩ = some (.int .i64 c) ∧ W.cell? ⟨rb, ro, none⟩ = some (.int .i64 r.pits) ∧ W.cell? ⟨rb, ro + 2, none⟩ = some (.bool r.stores)) (n := 25) (listed := #[false, false, false, false, false, false, false, false, false, false, false, false, false, false, false, false, false, false, false, false, false, false, false, false, false]) (by kernel_rfl) (by rfl) (by rfl) ?_ (fun hHeld => ?_)
      (focus ((try dsimp only); (first | done | (((refine HSK.out _ ?_; first | (with_reducible exact HB4.out) | exact B0.out)); done))))
      (refine takeH (i := 0) (v := ?_) (by decide +kernel) (by decide +kernel) (by kernel_rfl) (by rfl) (by exact fun _ _ _ h => h) (by rfl) ?_ (by assumption) ?_); rotate_left; (focus (intro w hSw; (try dsimp only at hSw); go_simp; (try with_reducible rfl); done)); (try simp only [Act.put, List.setIfInBounds_toArray, List.set_cons_zero, List.set_cons_succ])
      refine nextH (i := 1) (by decide +kernel) (by rfl) (by rfl) (fun K hK => ?_)
      go_simp
      ((go_at_call 106; (refine (HCW.out _).mono ?_); (rintro e w4 ⟨rfl, hb4⟩); (have HB4 := Lib.hid (below_next B0.out hb4))))
      refine hK.out _ _ ?_ (fun hHeld' => ?_)
      (focus ((try dsimp only); (first | done | (((refine HSK.out _ ?_; first | (with_reducible exact HB4.out) | exact B0.out)); done))))
      clear hK K hHeld
      have hHeld := hHeld'
      clear hHeld'
      (try simp only [Act.put, List.setIfInBounds_toArray, List.set_cons_zero, List.set_cons_succ])
      (refine takeH (i := 2) (v := ?_) (by decide +kernel) (by decide +kernel) (by kernel_rfl) (by rfl) (by exact fun _ _ _ h => h) (by rfl) ?_ (by assumption) ?_); rotate_left; (focus (intro w hSw; (try dsimp only at hSw); go_simp; (try with_reducible rfl); done)); (try simp only [Act.put, List.setIfInBounds_toArray, List.set_cons_zero, List.set_cons_succ])
      (refine takeH (i := 3) (v := ?_) (by decide +kernel) (by decide +kernel) (by kernel_rfl) (by rfl) (by exact fun _ _ _ h => h) (by rfl) ?_ (by assumption) ?_); rotate_left; (focus (intro w hSw; (try dsimp only at hSw); go_simp; (try with_reducible rfl); done)); (try simp only [Act.put, List.setIfInBounds_toArray, List.set_cons_zero, List.set_cons_succ])
      (refine takeH (i := 4) (v := ?_) (by decide +kernel) (by decide +kernel) (by kernel_rfl) (by rfl) (by exact fun _ _ _ h => h) (by rfl) ?_ (by assumption) ?_); rotate_left; (focus (intro w hSw; (try dsimp only at hSw); go_simp; (try with_reducible rfl); done)); (try simp only [Act.put, List.setIfInBounds_toArray, List.set_cons_zero, List.set_cons_succ])
      (refine takeH (i := 5) (v := ?_) (by decide +kernel) (by decide +kernel) (by kernel_rfl) (by rfl) (by exact fun _ _ _ h => h) (by rfl) ?_ (by assumption) ?_); rotate_left; (focus (intro w hSw; (try dsimp only at hSw); go_simp; (try with_reducible rfl); done)); (try simp only [Act.put, List.setIfInBounds_toArray, List.set_cons_zero, List.set_cons_succ])
      (refine takeH (i := 6) (v := ?_) (by decide +kernel) (by decide +kernel) (by kernel_rfl) (by rfl) (by exact fun _ _ _ h => h) (by rfl) ?_ (by assumption) ?_); rotate_left; (focus (intro w hSw; (try dsimp only at hSw); go_simp; (try with_reducible rfl); done)); (try simp only [Act.put, List.setIfInBounds_toArray, List.set_cons_zero, List.set_cons_succ])
      (refine takeH (i := 7) (v := ?_) (by decide +kernel) (by decide +kernel) (by kernel_rfl) (by rfl) (by exact fun _ _ _ h => h) (by rfl) ?_ (by assumption) ?_); rotate_left; (focus (intro w hSw; (try dsimp only at hSw); go_simp; (try with_reducible rfl); done)); (try simp only [Act.put, List.setIfInBounds_toArray, List.set_cons_zero, List.set_cons_succ])
      (refine takeH (i := 8) (v := ?_) (by decide +kernel) (by decide +kernel) (by kernel_rfl) (by rfl) (by exact fun _ _ _ h => h) (by rfl) ?_ (by assumption) ?_); rotate_left; (focus (intro w hSw; (try dsimp only at hSw); go_simp; (try with_reducible rfl); done)); (try simp only [Act.put, List.setIfInBounds_toArray, List.set_cons_zero, List.set_cons_succ])
      (refine takeH (i := 9) (v := ?_) (by decide +kernel) (by decide +kernel) (by kernel_rfl) (by rfl) (by exact fun _ _ _ h => h) (by rfl) ?_ (by assumption) ?_); rotate_left; (focus (intro w hSw; (try dsimp only at hSw); go_simp; (try with_reducible rfl); done)); (try simp only [Act.put, List.setIfInBounds_toArray, List.set_cons_zero, List.set_cons_succ])
      (refine takeH (i := 10) (v := ?_) (by decide +kernel) (by decide +kernel) (by kernel_rfl) (by rfl) (by exact fun _ _ _ h => h) (by rfl) ?_ (by assumption) ?_); rotate_left; (focus (intro w hSw; (try dsimp only at hSw); go_simp; (try with_reducible rfl); done)); (try simp only [Act.put, List.setIfInBounds_toArray, List.set_cons_zero, List.set_cons_succ])
      (refine takeH (i := 11) (v := ?_) (by decide +kernel) (by decide +kernel) (by kernel_rfl) (by rfl) (by exact fun _ _ _ h => h) (by rfl) ?_ (by assumption) ?_); rotate_left; (focus (intro w hSw; (try dsimp only at hSw); go_simp; (try with_reducible rfl); done)); (try simp only [Act.put, List.setIfInBounds_toArray, List.set_cons_zero, List.set_cons_succ])
      (refine takeH (i := 12) (v := ?_) (by decide +kernel) (by decide +kernel) (by kernel_rfl) (by rfl) (by exact fun _ _ _ h => h) (by rfl) ?_ (by assumption) ?_); rotate_left; (focus (intro w hSw; (try dsimp only at hSw); go_simp; (try with_reducible rfl); done)); (try simp only [Act.put, List.setIfInBounds_toArray, List.set_cons_zero, List.set_cons_succ])
      (refine takeH (i := 13) (v := ?_) (by decide +kernel) (by decide +kernel) (by kernel_rfl) (by rfl) (by exact fun _ _ _ h => h) (by rfl) ?_ (by assumption) ?_); rotate_left; (focus (intro w hSw; (try dsimp only at hSw); go_simp; (try with_reducible rfl); done)); (try simp only [Act.put, List.setIfInBounds_toArray, List.set_cons_zero, List.set_cons_succ])
      (refine takeH (i := 14) (v := ?_) (by decide +kernel) (by decide +kernel) (by kernel_rfl) (by rfl) (by exact fun _ _ _ h => h) (by rfl) ?_ (by assumption) ?_); rotate_left; (focus (intro w hSw; (try dsimp only at hSw); go_simp; (try with_reducible rfl); done)); (try simp only [Act.put, List.setIfInBounds_toArray, List.set_cons_zero, List.set_cons_succ])
      (refine takeH (i := 15) (v := ?_) (by decide +kernel) (by decide +kernel) (by kernel_rfl) (by rfl) (by exact fun _ _ _ h => h) (by rfl) ?_ (by assumption) ?_); rotate_left; (focus (intro w hSw; (try dsimp only at hSw); go_simp; (try with_reducible rfl); done)); (try simp only [Act.put, List.setIfInBounds_toArray, List.set_cons_zero, List.set_cons_succ])
      (refine takeH (i := 16) (v := ?_) (by decide +kernel) (by decide +kernel) (by kernel_rfl) (by rfl) (by exact fun _ _ _ h => h) (by rfl) ?_ (by assumption) ?_); rotate_left; (focus (intro w hSw; (try dsimp only at hSw); go_simp; (try with_reducible rfl); done)); (try simp only [Act.put, List.setIfInBounds_toArray, List.set_cons_zero, List.set_cons_succ])
      (refine takeH (i := 17) (v := ?_) (by decide +kernel) (by decide +kernel) (by kernel_rfl) (by rfl) (by exact fun _ _ _ h => h) (by rfl) ?_ (by assumption) ?_); rotate_left; (focus (intro w hSw; (try dsimp only at hSw); go_simp; (try with_reducible rfl); done)); (try simp only [Act.put, List.setIfInBounds_toArray, List.set_cons_zero, List.set_cons_succ])
      ((refine skipH (i := 18) (by decide +kernel) (by decide +kernel) (by kernel_rfl) (by rfl) (by exact fun _ _ _ h => h) (by rfl) (by assumption) ?_); (try simp only [Act.put, List.setIfInBounds_toArray, List.set_cons_zero, List.set_cons_succ]))
      ((refine skipH (i := 19) (by decide +kernel) (by decide +kernel) (by kernel_rfl) (by rfl) (by exact fun _ _ _ h => h) (by rfl) (by assumption) ?_); (try simp only [Act.put, List.setIfInBounds_toArray, List.set_cons_zero, List.set_cons_succ]))
      ((refine skipH (i := 20) (by decide +kernel) (by decide +kernel) (by kernel_rfl) (by rfl) (by exact fun _ _ _ h => h) (by rfl) (by assumption) ?_); (try simp only [Act.put, List.setIfInBounds_toArray, List.set_cons_zero, List.set_cons_succ]))
      ((refine skipH (i := 21) (by decide +kernel) (by decide +kernel) (by kernel_rfl) (by rfl) (by exact fun _ _ _ h => h) (by rfl) (by assumption) ?_); (try simp only [Act.put, List.setIfInBounds_toArray, List.set_cons_zero, List.set_cons_succ]))
      ((refine skipH (i := 22) (by decide +kernel) (by decide +kernel) (by kernel_rfl) (by rfl) (by exact fun _ _ _ h => h) (by rfl) (by assumption) ?_); (try simp only [Act.put, List.setIfInBounds_toArray, List.set_cons_zero, List.set_cons_succ]))
      (refine takeH (i := 23) (v := ?_) (by decide +kernel) (by decide +kernel) (by kernel_rfl) (by rfl) (by exact fun _ _ _ h => h) (by rfl) ?_ (by assumption) ?_); rotate_left; (focus (intro w hSw; (try dsimp only at hSw); go_simp; (try with_reducible rfl); done)); (try simp only [Act.put, List.setIfInBounds_toArray, List.set_cons_zero, List.set_cons_succ])
      (refine takeH (i := 24) (v := ?_) (by decide +kernel) (by decide +kernel) (by kernel_rfl) (by rfl) (by exact fun _ _ _ h => h) (by rfl) ?_ (by assumption) ?_); rotate_left; (focus (intro w hSw; (try dsimp only at hSw); go_simp; (try with_reducible rfl); done)); (try simp only [Act.put, List.setIfInBounds_toArray, List.set_cons_zero, List.set_cons_succ])
      refine wpAnyH_done (by decide +kernel) ?_ _
      have F4 := HF2.out.step HB4.out
      have A4 := HOU.out.below HB4.out
      obtain ⟨bx, bf⟩ := F4.at 0 rfl
      obtain ⟨x0, x1, x2⟩ := (⟨bx 0 _ rfl, bx 1 _ rfl, bx 2 _ rfl⟩ : _ ∧ _ ∧ _)
      obtain ⟨d0, d1, d2⟩ := (⟨F4.at 1 rfl 0 _ rfl, F4.at 1 rfl 1 _ rfl, F4.at 1 rfl 2 _ rfl⟩ : _ ∧ _ ∧ _)
      have zD : w.heap.size + 1 < w4.heap.size := F4.le 0 rfl
      have zE : w.heap.size < w4.heap.size := F4.le 1 rfl
      have pcell := (HR0.out _ F4.below).2.2
      have k0 := A4.sn.c0
      have k1 := A4.sn.c1
      have k2 := A4.c2
      have kf := A4.fz
      simp only [Nat.zero_add] at k0 k1
      have n1 := A4.sn.n1
      have n2 := A4.sn.n2
      have n3 := A4.sn.n3
      obtain ⟨n1', n2', n3'⟩ : ¬ sg = pg ∧ ¬ B = pg ∧ ¬ B = sg := ⟨fun e => n1 e.symm, fun e => n2 e.symm, fun e => n3 e.symm⟩
      have nbB := A4.sn.nb0
      have nbp := (A4.sn.op.lt pg rfl).1
      have nbs := (A4.sn.os.lt sg rfl).1
      obtain ⟨q1, q2, q3, q4, q5, q6⟩ : ¬ w.heap.size = B ∧ ¬ w.heap.size = pg ∧ ¬ w.heap.size = sg ∧ ¬ w.heap.size + 1 = B ∧ ¬ w.heap.size + 1 = pg ∧ ¬ w.heap.size + 1 = sg := by omega
      obtain ⟨q7, q8, q9⟩ : ¬ pb = B ∧ ¬ pb = pg ∧ ¬ pb = sg := by omega
      have HF := Lib.hid F4
      have HA := Lib.hid A4
      clear F4 A4 bx HF2 HOU HSK B0 HB4 hb4 hHeld HR0 HCW
      have B1 := HF.out.below
      go_wp2
      refine bodyPost_ret (v := .tuple #[P.val ⟨pits, stores, pn⟩ (some ⟨pg, 0, none⟩) uc (some ⟨sg, 0, none⟩) vc, .int .i64 0, .bool false]) (by simp [results, Try.results57, go_sem, x0, x1, x2, bf, zD, P.val, P.cells]) rfl ?_
      refine ⟨?_, .inl ⟨HS.out, _, ⟨_, _, _, _⟩, _, rfl⟩⟩
      repeat (first | (with_reducible exact B1) | ((with_reducible refine Below.setCell ?_ ?_ _); rotate_left; (simp <;> omega)) | (with_reducible refine Below.drew ?_) | (with_reducible exact Below.trans B1 (below_draws _ _ _)))
    · go_enter Try.func57, Try.ntmps57
      go_wp2_with fail
      refine HOW.out.mono ?_
      rintro e w1 ⟨ua, uc, va, vc, rfl, ho, hb1⟩
      try simp only [World.size_alloc] at ho
      obtain ⟨pg, rfl, hp1, hp2⟩ := own_lt_n ho.pits HLP.out.1
      obtain ⟨sg, rfl, hs1, hs2⟩ := own_lt_n ho.stores HLP.out.2.1
      have zA : w.heap.size < w1.heap.size := (F0.step hb1).le 1 rfl
      have zB : w.heap.size + 1 < w1.heap.size := (F0.step hb1).le 0 rfl
      have F2 := (F0.step hb1).step (below_alloc1 w1 (.cells #[.slice (some ⟨pg, 0, none⟩) pits.length uc, .slice (some ⟨sg, 0, none⟩) stores.length vc, .int .i64 pn] 30))
      have HO2 := OuP.start (base := w.heap.size + 1 + 1) ho (Nat.le_refl _) zB 30
      obtain ⟨B, hB⟩ : ∃ B, B = w1.heap.size := ⟨_, rfl⟩
      obtain ⟨W2, hW2⟩ : ∃ W, W = (w1.alloc (.cells #[.slice (some ⟨pg, 0, none⟩) pits.length uc, .slice (some ⟨sg, 0, none⟩) stores.length vc, .int .i64 pn] 30)) := ⟨_, rfl⟩
      simp only at HO2
      rw [← hB, ← hW2] at HO2
      rw [← hW2] at F2
      have HF2 := Lib.hid F2
      have HOU := Lib.hid HO2
      have zC : w.heap.size < W2.heap.size := F2.le 1 rfl
      have HSK : Hid (∀ W, Below W2.heap.size W2 W → (W.cell? ⟨w.heap.size, 0, none⟩ = some (.int .i64 5) ∧ W.cell? ⟨w.heap.size, 1, none⟩ = some (.int .i64 x) ∧ W.cell? ⟨w.heap.size, 2, none⟩ = some (.int .i64 c) ∧ W.cell? ⟨rb, ro, none⟩ = some (.int .i64 r.pits) ∧ W.cell? ⟨rb, ro + 2, none⟩ = some (.bool r.stores))) := fun W hW => ⟨((bcell hW).1 _ _ zC).trans (HF2.out.at 1 rfl 0 _ rfl), ((bcell hW).1 _ _ zC).trans (HF2.out.at 1 rfl 1 _ rfl), ((bcell hW).1 _ _ zC).trans (HF2.out.at 1 rfl 2 _ rfl), (HR0.out _ (HF2.out.step hW).below).1, (HR0.out _ (HF2.out.step hW).below).2.1⟩
      have B0 : Hid (Below W2.heap.size W2 W2.drew) := (Below.refl _ _).drew
      clear ho hb1 F0 F2 HO2 hp1 hp2 hs1 hs2 zA zB HOW
      go_wp2_with fail
      try rw [← hW2]
      try simp only [← hB]
      clear hW2 hB
      refine heldH (S := fun W => W.cell? ⟨w.heap.size, 0, none⟩ = some (.int .i64 5) ∧ W.cell? ⟨w.heap.size, 1, none⟩ = some (.int .i64 x) ∧ W.cell? ⟨w.heap.size, 2, none⟩ = some (.int .i64 c) ∧ W.cell? ⟨rb, ro, none⟩ = some (.int .i64 r.pits) ∧ W.cell? ⟨rb, ro + 2, none⟩ = some (.bool r.stores)) (n := 25) (listed := #[false, false, false, false, false, false, false, false, false, false, false, false, false, false, false, false, false, false, false, false, false, false, false, false, false]) (by kernel_rfl) (by rfl) (by rfl) ?_ (fun hHeld => ?_)
      (focus ((try dsimp only); (first | done | (((refine HSK.out _ ?_; first | (with_reducible exact HB4.out) | exact B0.out)); done))))
      (refine takeH (i := 0) (v := ?_) (by decide +kernel) (by decide +kernel) (by kernel_rfl) (by rfl) (by exact fun _ _ _ h => h) (by rfl) ?_ (by assumption) ?_); rotate_left; (focus (intro w hSw; (try dsimp only at hSw); go_simp; (try with_reducible rfl); done)); (try simp only [Act.put, List.setIfInBounds_toArray, List.set_cons_zero, List.set_cons_succ])
      refine nextH (i := 1) (by decide +kernel) (by rfl) (by rfl) (fun K hK => ?_)
      go_simp
      ((go_at_call 106; (refine (HCW.out _).mono ?_); (rintro e w4 ⟨rfl, hb4⟩); (have HB4 := Lib.hid (below_next B0.out hb4))))
      refine hK.out _ _ ?_ (fun hHeld' => ?_)
      (focus ((try dsimp only); (first | done | (((refine HSK.out _ ?_; first | (with_reducible exact HB4.out) | exact B0.out)); done))))
      clear hK K hHeld
      have hHeld := hHeld'
      clear hHeld'
      (try simp only [Act.put, List.setIfInBounds_toArray, List.set_cons_zero, List.set_cons_succ])
      (refine takeH (i := 2) (v := ?_) (by decide +kernel) (by decide +kernel) (by kernel_rfl) (by rfl) (by exact fun _ _ _ h => h) (by rfl) ?_ (by assumption) ?_); rotate_left; (focus (intro w hSw; (try dsimp only at hSw); go_simp; (try with_reducible rfl); done)); (try simp only [Act.put, List.setIfInBounds_toArray, List.set_cons_zero, List.set_cons_succ])
      (refine takeH (i := 3) (v := ?_) (by decide +kernel) (by decide +kernel) (by kernel_rfl) (by rfl) (by exact fun _ _ _ h => h) (by rfl) ?_ (by assumption) ?_); rotate_left; (focus (intro w hSw; (try dsimp only at hSw); go_simp; (try with_reducible rfl); done)); (try simp only [Act.put, List.setIfInBounds_toArray, List.set_cons_zero, List.set_cons_succ])
      (refine takeH (i := 4) (v := ?_) (by decide +kernel) (by decide +kernel) (by kernel_rfl) (by rfl) (by exact fun _ _ _ h => h) (by rfl) ?_ (by assumption) ?_); rotate_left; (focus (intro w hSw; (try dsimp only at hSw); go_simp; (try with_reducible rfl); done)); (try simp only [Act.put, List.setIfInBounds_toArray, List.set_cons_zero, List.set_cons_succ])
      (refine takeH (i := 5) (v := ?_) (by decide +kernel) (by decide +kernel) (by kernel_rfl) (by rfl) (by exact fun _ _ _ h => h) (by rfl) ?_ (by assumption) ?_); rotate_left; (focus (intro w hSw; (try dsimp only at hSw); go_simp; (try with_reducible rfl); done)); (try simp only [Act.put, List.setIfInBounds_toArray, List.set_cons_zero, List.set_cons_succ])
      (refine takeH (i := 6) (v := ?_) (by decide +kernel) (by decide +kernel) (by kernel_rfl) (by rfl) (by exact fun _ _ _ h => h) (by rfl) ?_ (by assumption) ?_); rotate_left; (focus (intro w hSw; (try dsimp only at hSw); go_simp; (try with_reducible rfl); done)); (try simp only [Act.put, List.setIfInBounds_toArray, List.set_cons_zero, List.set_cons_succ])
      (refine takeH (i := 7) (v := ?_) (by decide +kernel) (by decide +kernel) (by kernel_rfl) (by rfl) (by exact fun _ _ _ h => h) (by rfl) ?_ (by assumption) ?_); rotate_left; (focus (intro w hSw; (try dsimp only at hSw); go_simp; (try with_reducible rfl); done)); (try simp only [Act.put, List.setIfInBounds_toArray, List.set_cons_zero, List.set_cons_succ])
      (refine takeH (i := 8) (v := ?_) (by decide +kernel) (by decide +kernel) (by kernel_rfl) (by rfl) (by exact fun _ _ _ h => h) (by rfl) ?_ (by assumption) ?_); rotate_left; (focus (intro w hSw; (try dsimp only at hSw); go_simp; (try with_reducible rfl); done)); (try simp only [Act.put, List.setIfInBounds_toArray, List.set_cons_zero, List.set_cons_succ])
      (refine takeH (i := 9) (v := ?_) (by decide +kernel) (by decide +kernel) (by kernel_rfl) (by rfl) (by exact fun _ _ _ h => h) (by rfl) ?_ (by assumption) ?_); rotate_left; (focus (intro w hSw; (try dsimp only at hSw); go_simp; (try with_reducible rfl); done)); (try simp only [Act.put, List.setIfInBounds_toArray, List.set_cons_zero, List.set_cons_succ])
      (refine takeH (i := 10) (v := ?_) (by decide +kernel) (by decide +kernel) (by kernel_rfl) (by rfl) (by exact fun _ _ _ h => h) (by rfl) ?_ (by assumption) ?_); rotate_left; (focus (intro w hSw; (try dsimp only at hSw); go_simp; (try with_reducible rfl); done)); (try simp only [Act.put, List.setIfInBounds_toArray, List.set_cons_zero, List.set_cons_succ])
      (refine takeH (i := 11) (v := ?_) (by decide +kernel) (by decide +kernel) (by kernel_rfl) (by rfl) (by exact fun _ _ _ h => h) (by rfl) ?_ (by assumption) ?_); rotate_left; (focus (intro w hSw; (try dsimp only at hSw); go_simp; (try with_reducible rfl); done)); (try simp only [Act.put, List.setIfInBounds_toArray, List.set_cons_zero, List.set_cons_succ])
      (refine takeH (i := 12) (v := ?_) (by decide +kernel) (by decide +kernel) (by kernel_rfl) (by rfl) (by exact fun _ _ _ h => h) (by rfl) ?_ (by assumption) ?_); rotate_left; (focus (intro w hSw; (try dsimp only at hSw); go_simp; (try with_reducible rfl); done)); (try simp only [Act.put, List.setIfInBounds_toArray, List.set_cons_zero, List.set_cons_succ])
      (refine takeH (i := 13) (v := ?_) (by decide +kernel) (by decide +kernel) (by kernel_rfl) (by rfl) (by exact fun _ _ _ h => h) (by rfl) ?_ (by assumption) ?_); rotate_left; (focus (intro w hSw; (try dsimp only at hSw); go_simp; (try with_reducible rfl); done)); (try simp only [Act.put, List.setIfInBounds_toArray, List.set_cons_zero, List.set_cons_succ])
      (refine takeH (i := 14) (v := ?_) (by decide +kernel) (by decide +kernel) (by kernel_rfl) (by rfl) (by exact fun _ _ _ h => h) (by rfl) ?_ (by assumption) ?_); rotate_left; (focus (intro w hSw; (try dsimp only at hSw); go_simp; (try with_reducible rfl); done)); (try simp only [Act.put, List.setIfInBounds_toArray, List.set_cons_zero, List.set_cons_succ])
      (refine takeH (i := 15) (v := ?_) (by decide +kernel) (by decide +kernel) (by kernel_rfl) (by rfl) (by exact fun _ _ _ h => h) (by rfl) ?_ (by assumption) ?_); rotate_left; (focus (intro w hSw; (try dsimp only at hSw); go_simp; (try with_reducible rfl); done)); (try simp only [Act.put, List.setIfInBounds_toArray, List.set_cons_zero, List.set_cons_succ])
      (refine takeH (i := 16) (v := ?_) (by decide +kernel) (by decide +kernel) (by kernel_rfl) (by rfl) (by exact fun _ _ _ h => h) (by rfl) ?_ (by assumption) ?_); rotate_left; (focus (intro w hSw; (try dsimp only at hSw); go_simp; (try with_reducible rfl); done)); (try simp only [Act.put, List.setIfInBounds_toArray, List.set_cons_zero, List.set_cons_succ])
      (refine takeH (i := 17) (v := ?_) (by decide +kernel) (by decide +kernel) (by kernel_rfl) (by rfl) (by exact fun _ _ _ h => h) (by rfl) ?_ (by assumption) ?_); rotate_left; (focus (intro w hSw; (try dsimp only at hSw); go_simp; (try with_reducible rfl); done)); (try simp only [Act.put, List.setIfInBounds_toArray, List.set_cons_zero, List.set_cons_succ])
      ((refine skipH (i := 18) (by decide +kernel) (by decide +kernel) (by kernel_rfl) (by rfl) (by exact fun _ _ _ h => h) (by rfl) (by assumption) ?_); (try simp only [Act.put, List.setIfInBounds_toArray, List.set_cons_zero, List.set_cons_succ]))
      ((refine skipH (i := 19) (by decide +kernel) (by decide +kernel) (by kernel_rfl) (by rfl) (by exact fun _ _ _ h => h) (by rfl) (by assumption) ?_); (try simp only [Act.put, List.setIfInBounds_toArray, List.set_cons_zero, List.set_cons_succ]))
      ((refine skipH (i := 20) (by decide +kernel) (by decide +kernel) (by kernel_rfl) (by rfl) (by exact fun _ _ _ h => h) (by rfl) (by assumption) ?_); (try simp only [Act.put, List.setIfInBounds_toArray, List.set_cons_zero, List.set_cons_succ]))
      ((refine skipH (i := 21) (by decide +kernel) (by decide +kernel) (by kernel_rfl) (by rfl) (by exact fun _ _ _ h => h) (by rfl) (by assumption) ?_); (try simp only [Act.put, List.setIfInBounds_toArray, List.set_cons_zero, List.set_cons_succ]))
      ((refine skipH (i := 22) (by decide +kernel) (by decide +kernel) (by kernel_rfl) (by rfl) (by exact fun _ _ _ h => h) (by rfl) (by assumption) ?_); (try simp only [Act.put, List.setIfInBounds_toArray, List.set_cons_zero, List.set_cons_succ]))
      (refine takeH (i := 23) (v := ?_) (by decide +kernel) (by decide +kernel) (by kernel_rfl) (by rfl) (by exact fun _ _ _ h => h) (by rfl) ?_ (by assumption) ?_); rotate_left; (focus (intro w hSw; (try dsimp only at hSw); go_simp; (try with_reducible rfl); done)); (try simp only [Act.put, List.setIfInBounds_toArray, List.set_cons_zero, List.set_cons_succ])
      (refine takeH (i := 24) (v := ?_) (by decide +kernel) (by decide +kernel) (by kernel_rfl) (by rfl) (by exact fun _ _ _ h => h) (by rfl) ?_ (by assumption) ?_); rotate_left; (focus (intro w hSw; (try dsimp only at hSw); go_simp; (try with_reducible rfl); done)); (try simp only [Act.put, List.setIfInBounds_toArray, List.set_cons_zero, List.set_cons_succ])
      refine wpAnyH_done (by decide +kernel) ?_ _
      have F4 := HF2.out.step HB4.out
      have A4 := HOU.out.below HB4.out
      obtain ⟨bx, bf⟩ := F4.at 0 rfl
      obtain ⟨x0, x1, x2⟩ := (⟨bx 0 _ rfl, bx 1 _ rfl, bx 2 _ rfl⟩ : _ ∧ _ ∧ _)
      obtain ⟨d0, d1, d2⟩ := (⟨F4.at 1 rfl 0 _ rfl, F4.at 1 rfl 1 _ rfl, F4.at 1 rfl 2 _ rfl⟩ : _ ∧ _ ∧ _)
      have zD : w.heap.size + 1 < w4.heap.size := F4.le 0 rfl
      have zE : w.heap.size < w4.heap.size := F4.le 1 rfl
      have pcell := (HR0.out _ F4.below).2.2
      have k0 := A4.sn.c0
      have k1 := A4.sn.c1
      have k2 := A4.c2
      have kf := A4.fz
      simp only [Nat.zero_add] at k0 k1
      have n1 := A4.sn.n1
      have n2 := A4.sn.n2
      have n3 := A4.sn.n3
      obtain ⟨n1', n2', n3'⟩ : ¬ sg = pg ∧ ¬ B = pg ∧ ¬ B = sg := ⟨fun e => n1 e.symm, fun e => n2 e.symm, fun e => n3 e.symm⟩
      have nbB := A4.sn.nb0
      have nbp := (A4.sn.op.lt pg rfl).1
      have nbs := (A4.sn.os.lt sg rfl).1
      obtain ⟨q1, q2, q3, q4, q5, q6⟩ : ¬ w.heap.size = B ∧ ¬ w.heap.size = pg ∧ ¬ w.heap.size = sg ∧ ¬ w.heap.size + 1 = B ∧ ¬ w.heap.size + 1 = pg ∧ ¬ w.heap.size + 1 = sg := by omega
      obtain ⟨q7, q8, q9⟩ : ¬ pb = B ∧ ¬ pb = pg ∧ ¬ pb = sg := by omega
      have HF := Lib.hid F4
      have HA := Lib.hid A4
      clear F4 A4 bx HF2 HOU HSK B0 HB4 hb4 hHeld HR0 HCW
      have B1 := HF.out.below
      go_wp2
      refine bodyPost_ret (v := .tuple #[P.val ⟨pits, stores, pn⟩ (some ⟨pg, 0, none⟩) uc (some ⟨sg, 0, none⟩) vc, .int .i64 0, .bool false]) (by simp [results, Try.results57, go_sem, x0, x1, x2, bf, zD, P.val, P.cells]) rfl ?_
      refine ⟨?_, .inl ⟨HS.out, _, ⟨_, _, _, _⟩, _, rfl⟩⟩
      repeat (first | (with_reducible exact B1) | ((with_reducible refine Below.setCell ?_ ?_ _); rotate_left; (simp <;> omega)) | (with_reducible refine Below.drew ?_) | (with_reducible exact Below.trans B1 (below_draws _ _ _)))
    · go_enter Try.func57, Try.ntmps57
      go_wp2_with fail
      refine HOW.out.mono ?_
      rintro e w1 ⟨ua, uc, va, vc, rfl, ho, hb1⟩
      try simp only [World.size_alloc] at ho
      obtain ⟨pg, rfl, hp1, hp2⟩ := own_lt_n ho.pits HLP.out.1
      obtain ⟨sg, rfl, hs1, hs2⟩ := own_lt_n ho.stores HLP.out.2.1
      have zA : w.heap.size < w1.heap.size := (F0.step hb1).le 1 rfl
      have zB : w.heap.size + 1 < w1.heap.size := (F0.step hb1).le 0 rfl
      have F2 := (F0.step hb1).step (below_alloc1 w1 (.cells #[.slice (some ⟨pg, 0, none⟩) pits.length uc, .slice (some ⟨sg, 0, none⟩) stores.length vc, .int .i64 pn] 30))
      have HO2 := OuP.start (base := w.heap.size + 1 + 1) ho (Nat.le_refl _) zB 30
      obtain ⟨B, hB⟩ : ∃ B, B = w1.heap.size := ⟨_, rfl⟩
      obtain ⟨W2, hW2⟩ : ∃ W, W = (w1.alloc (.cells #[.slice (some ⟨pg, 0, none⟩) pits.length uc, .slice (some ⟨sg, 0, none⟩) stores.length vc, .int .i64 pn] 30)) := ⟨_, rfl⟩
      simp only at HO2
      rw [← hB, ← hW2] at HO2
      rw [← hW2] at F2
      have HF2 := Lib.hid F2
      have HOU := Lib.hid HO2
      have zC : w.heap.size < W2.heap.size := F2.le 1 rfl
      have HSK : Hid (∀ W, Below W2.heap.size W2 W → (W.cell? ⟨w.heap.size, 0, none⟩ = some (.int .i64 6) ∧ W.cell? ⟨w.heap.size, 1, none⟩ = some (.int .i64 x) ∧ W.cell? ⟨w.heap.size, 2, none⟩ = some (.int .i64 c) ∧ W.cell? ⟨rb, ro, none⟩ = some (.int .i64 r.pits) ∧ W.cell? ⟨rb, ro + 2, none⟩ = some (.bool r.stores))) := fun W hW => ⟨((bcell hW).1 _ _ zC).trans (HF2.out.at 1 rfl 0 _ rfl), ((bcell hW).1 _ _ zC).trans (HF2.out.at 1 rfl 1 _ rfl), ((bcell hW).1 _ _ zC).trans (HF2.out.at 1 rfl 2 _ rfl), (HR0.out _ (HF2.out.step hW).below).1, (HR0.out _ (HF2.out.step hW).below).2.1⟩
      have B0 : Hid (Below W2.heap.size W2 W2.drew) := (Below.refl _ _).drew
      clear ho hb1 F0 F2 HO2 hp1 hp2 hs1 hs2 zA zB HOW
      go_wp2_with fail
      try rw [← hW2]
      try simp only [← hB]
      clear hW2 hB
      refine heldH (S := fun W => W.cell? ⟨w.heap.size, 0, none⟩ = some (.int .i64 6) ∧ W.cell? ⟨w.heap.size, 1, none⟩ = some (.int .i64 x) ∧ W.cell? ⟨w.heap.size, 2, none⟩ = some (.int .i64 c) ∧ W.cell? ⟨rb, ro, none⟩ = some (.int .i64 r.pits) ∧ W.cell? ⟨rb, ro + 2, none⟩ = some (.bool r.stores)) (n := 25) (listed := #[false, false, false, false, false, false, false, false, false, false, false, false, false, false, false, false, false, false, false, false, false, false, false, false, false]) (by kernel_rfl) (by rfl) (by rfl) ?_ (fun hHeld => ?_)
      (focus ((try dsimp only); (first | done | (((refine HSK.out _ ?_; first | (with_reducible exact HB4.out) | exact B0.out)); done))))
      (refine takeH (i := 0) (v := ?_) (by decide +kernel) (by decide +kernel) (by kernel_rfl) (by rfl) (by exact fun _ _ _ h => h) (by rfl) ?_ (by assumption) ?_); rotate_left; (focus (intro w hSw; (try dsimp only at hSw); go_simp; (try with_reducible rfl); done)); (try simp only [Act.put, List.setIfInBounds_toArray, List.set_cons_zero, List.set_cons_succ])
      refine nextH (i := 1) (by decide +kernel) (by rfl) (by rfl) (fun K hK => ?_)
      go_simp
      ((go_at_call 106; (refine (HCW.out _).mono ?_); (rintro e w4 ⟨rfl, hb4⟩); (have HB4 := Lib.hid (below_next B0.out hb4))))
      refine hK.out _ _ ?_ (fun hHeld' => ?_)
      (focus ((try dsimp only); (first | done | (((refine HSK.out _ ?_; first | (with_reducible exact HB4.out) | exact B0.out)); done))))
      clear hK K hHeld
      have hHeld := hHeld'
      clear hHeld'
      (try simp only [Act.put, List.setIfInBounds_toArray, List.set_cons_zero, List.set_cons_succ])
      (refine takeH (i := 2) (v := ?_) (by decide +kernel) (by decide +kernel) (by kernel_rfl) (by rfl) (by exact fun _ _ _ h => h) (by rfl) ?_ (by assumption) ?_); rotate_left; (focus (intro w hSw; (try dsimp only at hSw); go_simp; (try with_reducible rfl); done)); (try simp only [Act.put, List.setIfInBounds_toArray, List.set_cons_zero, List.set_cons_succ])
      (refine takeH (i := 3) (v := ?_) (by decide +kernel) (by decide +kernel) (by kernel_rfl) (by rfl) (by exact fun _ _ _ h => h) (by rfl) ?_ (by assumption) ?_); rotate_left; (focus (intro w hSw; (try dsimp only at hSw); go_simp; (try with_reducible rfl); done)); (try simp only [Act.put, List.setIfInBounds_toArray, List.set_cons_zero, List.set_cons_succ])
      (refine takeH (i := 4) (v := ?_) (by decide +kernel) (by decide +kernel) (by kernel_rfl) (by rfl) (by exact fun _ _ _ h => h) (by rfl) ?_ (by assumption) ?_); rotate_left; (focus (intro w hSw; (try dsimp only at hSw); go_simp; (try with_reducible rfl); done)); (try simp only [Act.put, List.setIfInBounds_toArray, List.set_cons_zero, List.set_cons_succ])
      (refine takeH (i := 5) (v := ?_) (by decide +kernel) (by decide +kernel) (by kernel_rfl) (by rfl) (by exact fun _ _ _ h => h) (by rfl) ?_ (by assumption) ?_); rotate_left; (focus (intro w hSw; (try dsimp only at hSw); go_simp; (try with_reducible rfl); done)); (try simp only [Act.put, List.setIfInBounds_toArray, List.set_cons_zero, List.set_cons_succ])
      (refine takeH (i := 6) (v := ?_) (by decide +kernel) (by decide +kernel) (by kernel_rfl) (by rfl) (by exact fun _ _ _ h => h) (by rfl) ?_ (by assumption) ?_); rotate_left; (focus (intro w hSw; (try dsimp only at hSw); go_simp; (try with_reducible rfl); done)); (try simp only [Act.put, List.setIfInBounds_toArray, List.set_cons_zero, List.set_cons_succ])
      (refine takeH (i := 7) (v := ?_) (by decide +kernel) (by decide +kernel) (by kernel_rfl) (by rfl) (by exact fun _ _ _ h => h) (by rfl) ?_ (by assumption) ?_); rotate_left; (focus (intro w hSw; (try dsimp only at hSw); go_simp; (try with_reducible rfl); done)); (try simp only [Act.put, List.setIfInBounds_toArray, List.set_cons_zero, List.set_cons_succ])
      (refine takeH (i := 8) (v := ?_) (by decide +kernel) (by decide +kernel) (by kernel_rfl) (by rfl) (by exact fun _ _ _ h => h) (by rfl) ?_ (by assumption) ?_); rotate_left; (focus (intro w hSw; (try dsimp only at hSw); go_simp; (try with_reducible rfl); done)); (try simp only [Act.put, List.setIfInBounds_toArray, List.set_cons_zero, List.set_cons_succ])
      (refine takeH (i := 9) (v := ?_) (by decide +kernel) (by decide +kernel) (by kernel_rfl) (by rfl) (by exact fun _ _ _ h => h) (by rfl) ?_ (by assumption) ?_); rotate_left; (focus (intro w hSw; (try dsimp only at hSw); go_simp; (try with_reducible rfl); done)); (try simp only [Act.put, List.setIfInBounds_toArray, List.set_cons_zero, List.set_cons_succ])
      (refine takeH (i := 10) (v := ?_) (by decide +kernel) (by decide +kernel) (by kernel_rfl) (by rfl) (by exact fun _ _ _ h => h) (by rfl) ?_ (by assumption) ?_); rotate_left; (focus (intro w hSw; (try dsimp only at hSw); go_simp; (try with_reducible rfl); done)); (try simp only [Act.put, List.setIfInBounds_toArray, List.set_cons_zero, List.set_cons_succ])
      (refine takeH (i := 11) (v := ?_) (by decide +kernel) (by decide +kernel) (by kernel_rfl) (by rfl) (by exact fun _ _ _ h => h) (by rfl) ?_ (by assumption) ?_); rotate_left; (focus (intro w hSw; (try dsimp only at hSw); go_simp; (try with_reducible rfl); done)); (try simp only [Act.put, List.setIfInBounds_toArray, List.set_cons_zero, List.set_cons_succ])
      (refine takeH (i := 12) (v := ?_) (by decide +kernel) (by decide +kernel) (by kernel_rfl) (by rfl) (by exact fun _ _ _ h => h) (by rfl) ?_ (by assumption) ?_); rotate_left; (focus (intro w hSw; (try dsimp only at hSw); go_simp; (try with_reducible rfl); done)); (try simp only [Act.put, List.setIfInBounds_toArray, List.set_cons_zero, List.set_cons_succ])
      (refine takeH (i := 13) (v := ?_) (by decide +kernel) (by decide +kernel) (by kernel_rfl) (by rfl) (by exact fun _ _ _ h => h) (by rfl) ?_ (by assumption) ?_); rotate_left; (focus (intro w hSw; (try dsimp only at hSw); go_simp; (try with_reducible rfl); done)); (try simp only [Act.put, List.setIfInBounds_toArray, List.set_cons_zero, List.set_cons_succ])
      (refine takeH (i := 14) (v := ?_) (by decide +kernel) (by decide +kernel) (by kernel_rfl) (by rfl) (by exact fun _ _ _ h => h) (by rfl) ?_ (by assumption) ?_); rotate_left; (focus (intro w hSw; (try dsimp only at hSw); go_simp; (try with_reducible rfl); done)); (try simp only [Act.put, List.setIfInBounds_toArray, List.set_cons_zero, List.set_cons_succ])
      (refine takeH (i := 15) (v := ?_) (by decide +kernel) (by decide +kernel) (by kernel_rfl) (by rfl) (by exact fun _ _ _ h => h) (by rfl) ?_ (by assumption) ?_); rotate_left; (focus (intro w hSw; (try dsimp only at hSw); go_simp; (try with_reducible rfl); done)); (try simp only [Act.put, List.setIfInBounds_toArray, List.set_cons_zero, List.set_cons_succ])
      (refine takeH (i := 16) (v := ?_) (by decide +kernel) (by decide +kernel) (by kernel_rfl) (by rfl) (by exact fun _ _ _ h => h) (by rfl) ?_ (by assumption) ?_); rotate_left; (focus (intro w hSw; (try dsimp only at hSw); go_simp; (try with_reducible rfl); done)); (try simp only [Act.put, List.setIfInBounds_toArray, List.set_cons_zero, List.set_cons_succ])
      (refine takeH (i := 17) (v := ?_) (by decide +kernel) (by decide +kernel) (by kernel_rfl) (by rfl) (by exact fun _ _ _ h => h) (by rfl) ?_ (by assumption) ?_); rotate_left; (focus (intro w hSw; (try dsimp only at hSw); go_simp; (try with_reducible rfl); done)); (try simp only [Act.put, List.setIfInBounds_toArray, List.set_cons_zero, List.set_cons_succ])
      ((refine skipH (i := 18) (by decide +kernel) (by decide +kernel) (by kernel_rfl) (by rfl) (by exact fun _ _ _ h => h) (by rfl) (by assumption) ?_); (try simp only [Act.put, List.setIfInBounds_toArray, List.set_cons_zero, List.set_cons_succ]))
      ((refine skipH (i := 19) (by decide +kernel) (by decide +kernel) (by kernel_rfl) (by rfl) (by exact fun _ _ _ h => h) (by rfl) (by assumption) ?_); (try simp only [Act.put, List.setIfInBounds_toArray, List.set_cons_zero, List.set_cons_succ]))
      ((refine skipH (i := 20) (by decide +kernel) (by decide +kernel) (by kernel_rfl) (by rfl) (by exact fun _ _ _ h => h) (by rfl) (by assumption) ?_); (try simp only [Act.put, List.setIfInBounds_toArray, List.set_cons_zero, List.set_cons_succ]))
      ((refine skipH (i := 21) (by decide +kernel) (by decide +kernel) (by kernel_rfl) (by rfl) (by exact fun _ _ _ h => h) (by rfl) (by assumption) ?_); (try simp only [Act.put, List.setIfInBounds_toArray, List.set_cons_zero, List.set_cons_succ]))
      ((refine skipH (i := 22) (by decide +kernel) (by decide +kernel) (by kernel_rfl) (by rfl) (by exact fun _ _ _ h => h) (by rfl) (by assumption) ?_); (try simp only [Act.put, List.setIfInBounds_toArray, List.set_cons_zero, List.set_cons_succ]))
      (refine takeH (i := 23) (v := ?_) (by decide +kernel) (by decide +kernel) (by kernel_rfl) (by rfl) (by exact fun _ _ _ h => h) (by rfl) ?_ (by assumption) ?_); rotate_left; (focus (intro w hSw; (try dsimp only at hSw); go_simp; (try with_reducible rfl); done)); (try simp only [Act.put, List.setIfInBounds_toArray, List.set_cons_zero, List.set_cons_succ])
      (refine takeH (i := 24) (v := ?_) (by decide +kernel) (by decide +kernel) (by kernel_rfl) (by rfl) (by exact fun _ _ _ h => h) (by rfl) ?_ (by assumption) ?_); rotate_left; (focus (intro w hSw; (try dsimp only at hSw); go_simp; (try with_reducible rfl); done)); (try simp only [Act.put, List.setIfInBounds_toArray, List.set_cons_zero, List.set_cons_succ])
      refine wpAnyH_done (by decide +kernel) ?_ _
      have F4 := HF2.out.step HB4.out
      have A4 := HOU.out.below HB4.out
      obtain ⟨bx, bf⟩ := F4.at 0 rfl
      obtain ⟨x0, x1, x2⟩ := (⟨bx 0 _ rfl, bx 1 _ rfl, bx 2 _ rfl⟩ : _ ∧ _ ∧ _)
      obtain ⟨d0, d1, d2⟩ := (⟨F4.at 1 rfl 0 _ rfl, F4.at 1 rfl 1 _ rfl, F4.at 1 rfl 2 _ rfl⟩ : _ ∧ _ ∧ _)
      have zD : w.heap.size + 1 < w4.heap.size := F4.le 0 rfl
      have zE : w.heap.size < w4.heap.size := F4.le 1 rfl
      have pcell := (HR0.out _ F4.below).2.2
      have k0 := A4.sn.c0
      have k1 := A4.sn.c1
      have k2 := A4.c2
      have kf := A4.fz
      simp only [Nat.zero_add] at k0 k1
      have n1 := A4.sn.n1
      have n2 := A4.sn.n2
      have n3 := A4.sn.n3
      obtain ⟨n1', n2', n3'⟩ : ¬ sg = pg ∧ ¬ B = pg ∧ ¬ B = sg := ⟨fun e => n1 e.symm, fun e => n2 e.symm, fun e => n3 e.symm⟩
      have nbB := A4.sn.nb0
      have nbp := (A4.sn.op.lt pg rfl).1
      have nbs := (A4.sn.os.lt sg rfl).1
      obtain ⟨q1, q2, q3, q4, q5, q6⟩ : ¬ w.heap.size = B ∧ ¬ w.heap.size = pg ∧ ¬ w.heap.size = sg ∧ ¬ w.heap.size + 1 = B ∧ ¬ w.heap.size + 1 = pg ∧ ¬ w.heap.size + 1 = sg := by omega
      obtain ⟨q7, q8, q9⟩ : ¬ pb = B ∧ ¬ pb = pg ∧ ¬ pb = sg := by omega
      have HF := Lib.hid F4
      have HA := Lib.hid A4
      clear F4 A4 bx HF2 HOU HSK B0 HB4 hb4 hHeld HR0 HCW
      have hwp : IntKind.i64.wrap (1 - (pn : Int)) = 1 - pn := IntWalk.i64_in _ (by omega)
      have B1 := HF.out.below
      go_wp2
      refine bodyPost_ret (v := .tuple #[P.val ⟨pits, stores, 1 - pn⟩ (some ⟨pg, 0, none⟩) uc (some ⟨sg, 0, none⟩) vc, .int .i64 0, .bool false]) (by simp [results, Try.results57, go_sem, x0, x1, x2, bf, zD, P.val, P.cells]) rfl ?_
      refine ⟨?_, .inl ⟨HS.out, _, ⟨_, _, _, _⟩, _, rfl⟩⟩
      repeat (first | (with_reducible exact B1) | ((with_reducible refine Below.setCell ?_ ?_ _); rotate_left; (simp <;> omega)) | (with_reducible refine Below.drew ?_) | (with_reducible exact Below.trans B1 (below_draws _ _ _)))
  subst hh
  rw [if_neg (by simp)] at hST
  rcases hk3 with rfl | rfl | rfl | rfl | rfl
  · rw [if_pos rfl] at hST
    obtain ⟨hc1, hc9⟩ := hc13 (.inl rfl)
    by_cases hvc : v = c
    · have HS := Lib.hid (hST.trans (if_pos hvc))
      have hvc1 : (v == c) = true := by simpa using hvc
      have hvc2 : (v != c) = false := by simpa using hvc
      have HVC := Lib.hid hvc
      clear hST k2 hvc hc13
      go_enter Try.func57, Try.ntmps57
      go_wp2_with fail
      refine HOW.out.mono ?_
      rintro e w1 ⟨ua, uc, va, vc, rfl, ho, hb1⟩
      try simp only [World.size_alloc] at ho
      obtain ⟨pg, rfl, hp1, hp2⟩ := own_lt_n ho.pits HLP.out.1
      obtain ⟨sg, rfl, hs1, hs2⟩ := own_lt_n ho.stores HLP.out.2.1
      have zA : w.heap.size < w1.heap.size := (F0.step hb1).le 1 rfl
      have zB : w.heap.size + 1 < w1.heap.size := (F0.step hb1).le 0 rfl
      have F2 := (F0.step hb1).step (below_alloc1 w1 (.cells #[.slice (some ⟨pg, 0, none⟩) pits.length uc, .slice (some ⟨sg, 0, none⟩) stores.length vc, .int .i64 pn] 30))
      have HO2 := OuP.start (base := w.heap.size + 1 + 1) ho (Nat.le_refl _) zB 30
      obtain ⟨B, hB⟩ : ∃ B, B = w1.heap.size := ⟨_, rfl⟩
      obtain ⟨W2, hW2⟩ : ∃ W, W = (w1.alloc (.cells #[.slice (some ⟨pg, 0, none⟩) pits.length uc, .slice (some ⟨sg, 0, none⟩) stores.length vc, .int .i64 pn] 30)) := ⟨_, rfl⟩
      simp only at HO2
      rw [← hB, ← hW2] at HO2
      rw [← hW2] at F2
      have HF2 := Lib.hid F2
      have HOU := Lib.hid HO2
      have zC : w.heap.size < W2.heap.size := F2.le 1 rfl
      have HSK : Hid (∀ W, Below W2.heap.size W2 W → (W.cell? ⟨w.heap.size, 0, none⟩ = some (.int .i64 1) ∧ W.cell? ⟨w.heap.size, 1, none⟩ = some (.int .i64 x) ∧ W.cell? ⟨w.heap.size, 2, none⟩ = some (.int .i64 c) ∧ W.cell? ⟨rb, ro, none⟩ = some (.int .i64 r.pits) ∧ W.cell? ⟨rb, ro + 2, none⟩ = some (.bool r.stores))) := fun W hW => ⟨((bcell hW).1 _ _ zC).trans (HF2.out.at 1 rfl 0 _ rfl), ((bcell hW).1 _ _ zC).trans (HF2.out.at 1 rfl 1 _ rfl), ((bcell hW).1 _ _ zC).trans (HF2.out.at 1 rfl 2 _ rfl), (HR0.out _ (HF2.out.step hW).below).1, (HR0.out _ (HF2.out.step hW).below).2.1⟩
      have B0 : Hid (Below W2.heap.size W2 W2.drew) := (Below.refl _ _).drew
      clear ho hb1 F0 F2 HO2 hp1 hp2 hs1 hs2 zA zB HOW
      go_wp2_with fail
      try rw [← hW2]
      try simp only [← hB]
      clear hW2 hB
      refine heldH (S := fun W => W.cell? ⟨w.heap.size, 0, none⟩ = some (.int .i64 1) ∧ W.cell? ⟨w.heap.size, 1, none⟩ = some (.int .i64 x) ∧ W.cell? ⟨w.heap.size, 2, none⟩ = some (.int .i64 c) ∧ W.cell? ⟨rb, ro, none⟩ = some (.int .i64 r.pits) ∧ W.cell? ⟨rb, ro + 2, none⟩ = some (.bool r.stores)) (n := 25) (listed := #[false, false, false, false, false, false, false, false, false, false, false, false, false, false, false, false, false, false, false, false, false, false, false, false, false]) (by kernel_rfl) (by rfl) (by rfl) ?_ (fun hHeld => ?_)
      (focus ((try dsimp only); (first | done | (((refine HSK.out _ ?_; first | (with_reducible exact HB4.out) | exact B0.out)); done))))
      (refine takeH (i := 0) (v := ?_) (by decide +kernel) (by decide +kernel) (by kernel_rfl) (by rfl) (by exact fun _ _ _ h => h) (by rfl) ?_ (by assumption) ?_); rotate_left; (focus (intro w hSw; (try dsimp only at hSw); go_simp; (try with_reducible rfl); done)); (try simp only [Act.put, List.setIfInBounds_toArray, List.set_cons_zero, List.set_cons_succ])
      refine nextH (i := 1) (by decide +kernel) (by rfl) (by rfl) (fun K hK => ?_)
      go_simp
      ((go_at_call 106; (refine (HCW.out _).mono ?_); (rintro e w4 ⟨rfl, hb4⟩); (have HB4 := Lib.hid (below_next B0.out hb4))))
      refine hK.out _ _ ?_ (fun hHeld' => ?_)
      (focus ((try dsimp only); (first | done | (((refine HSK.out _ ?_; first | (with_reducible exact HB4.out) | exact B0.out)); done))))
      clear hK K hHeld
      have hHeld := hHeld'
      clear hHeld'
      (try simp only [Act.put, List.setIfInBounds_toArray, List.set_cons_zero, List.set_cons_succ])
      (refine takeH (i := 2) (v := ?_) (by decide +kernel) (by decide +kernel) (by kernel_rfl) (by rfl) (by exact fun _ _ _ h => h) (by rfl) ?_ (by assumption) ?_); rotate_left; (focus (intro w hSw; (try dsimp only at hSw); go_simp; (try with_reducible rfl); done)); (try simp only [Act.put, List.setIfInBounds_toArray, List.set_cons_zero, List.set_cons_succ])
      (refine takeH (i := 3) (v := ?_) (by decide +kernel) (by decide +kernel) (by kernel_rfl) (by rfl) (by exact fun _ _ _ h => h) (by rfl) ?_ (by assumption) ?_); rotate_left; (focus (intro w hSw; (try dsimp only at hSw); go_simp; (try with_reducible rfl); done)); (try simp only [Act.put, List.setIfInBounds_toArray, List.set_cons_zero, List.set_cons_succ])
      (refine takeH (i := 4) (v := ?_) (by decide +kernel) (by decide +kernel) (by kernel_rfl) (by rfl) (by exact fun _ _ _ h => h) (by rfl) ?_ (by assumption) ?_); rotate_left; (focus (intro w hSw; (try dsimp only at hSw); go_simp; (try with_reducible rfl); done)); (try simp only [Act.put, List.setIfInBounds_toArray, List.set_cons_zero, List.set_cons_succ])
      (refine takeH (i := 5) (v := ?_) (by decide +kernel) (by decide +kernel) (by kernel_rfl) (by rfl) (by exact fun _ _ _ h => h) (by rfl) ?_ (by assumption) ?_); rotate_left; (focus (intro w hSw; (try dsimp only at hSw); go_simp; (try with_reducible rfl); done)); (try simp only [Act.put, List.setIfInBounds_toArray, List.set_cons_zero, List.set_cons_succ])
      (refine takeH (i := 6) (v := ?_) (by decide +kernel) (by decide +kernel) (by kernel_rfl) (by rfl) (by exact fun _ _ _ h => h) (by rfl) ?_ (by assumption) ?_); rotate_left; (focus (intro w hSw; (try dsimp only at hSw); go_simp; (try with_reducible rfl); done)); (try simp only [Act.put, List.setIfInBounds_toArray, List.set_cons_zero, List.set_cons_succ])
      (refine takeH (i := 7) (v := ?_) (by decide +kernel) (by decide +kernel) (by kernel_rfl) (by rfl) (by exact fun _ _ _ h => h) (by rfl) ?_ (by assumption) ?_); rotate_left; (focus (intro w hSw; (try dsimp only at hSw); go_simp; (try with_reducible rfl); done)); (try simp only [Act.put, List.setIfInBounds_toArray, List.set_cons_zero, List.set_cons_succ])
      (refine takeH (i := 8) (v := ?_) (by decide +kernel) (by decide +kernel) (by kernel_rfl) (by rfl) (by exact fun _ _ _ h => h) (by rfl) ?_ (by assumption) ?_); rotate_left; (focus (intro w hSw; (try dsimp only at hSw); go_simp; (try with_reducible rfl); done)); (try simp only [Act.put, List.setIfInBounds_toArray, List.set_cons_zero, List.set_cons_succ])
      (refine takeH (i := 9) (v := ?_) (by decide +kernel) (by decide +kernel) (by kernel_rfl) (by rfl) (by exact fun _ _ _ h => h) (by rfl) ?_ (by assumption) ?_); rotate_left; (focus (intro w hSw; (try dsimp only at hSw); go_simp; (try with_reducible rfl); done)); (try simp only [Act.put, List.setIfInBounds_toArray, List.set_cons_zero, List.set_cons_succ])
      (refine takeH (i := 10) (v := ?_) (by decide +kernel) (by decide +kernel) (by kernel_rfl) (by rfl) (by exact fun _ _ _ h => h) (by rfl) ?_ (by assumption) ?_); rotate_left; (focus (intro w hSw; (try dsimp only at hSw); go_simp; (try with_reducible rfl); done)); (try simp only [Act.put, List.setIfInBounds_toArray, List.set_cons_zero, List.set_cons_succ])
      (refine takeH (i := 11) (v := ?_) (by decide +kernel) (by decide +kernel) (by kernel_rfl) (by rfl) (by exact fun _ _ _ h => h) (by rfl) ?_ (by assumption) ?_); rotate_left; (focus (intro w hSw; (try dsimp only at hSw); go_simp; (try with_reducible rfl); done)); (try simp only [Act.put, List.setIfInBounds_toArray, List.set_cons_zero, List.set_cons_succ])
      (refine takeH (i := 12) (v := ?_) (by decide +kernel) (by decide +kernel) (by kernel_rfl) (by rfl) (by exact fun _ _ _ h => h) (by rfl) ?_ (by assumption) ?_); rotate_left; (focus (intro w hSw; (try dsimp only at hSw); go_simp; (try with_reducible rfl); done)); (try simp only [Act.put, List.setIfInBounds_toArray, List.set_cons_zero, List.set_cons_succ])
      (refine takeH (i := 13) (v := ?_) (by decide +kernel) (by decide +kernel) (by kernel_rfl) (by rfl) (by exact fun _ _ _ h => h) (by rfl) ?_ (by assumption) ?_); rotate_left; (focus (intro w hSw; (try dsimp only at hSw); go_simp; (try with_reducible rfl); done)); (try simp only [Act.put, List.setIfInBounds_toArray, List.set_cons_zero, List.set_cons_succ])
      (refine takeH (i := 14) (v := ?_) (by decide +kernel) (by decide +kernel) (by kernel_rfl) (by rfl) (by exact fun _ _ _ h => h) (by rfl) ?_ (by assumption) ?_); rotate_left; (focus (intro w hSw; (try dsimp only at hSw); go_simp; (try with_reducible rfl); done)); (try simp only [Act.put, List.setIfInBounds_toArray, List.set_cons_zero, List.set_cons_succ])
      (refine takeH (i := 15) (v := ?_) (by decide +kernel) (by decide +kernel) (by kernel_rfl) (by rfl) (by exact fun _ _ _ h => h) (by rfl) ?_ (by assumption) ?_); rotate_left; (focus (intro w hSw; (try dsimp only at hSw); go_simp; (try with_reducible rfl); done)); (try simp only [Act.put, List.setIfInBounds_toArray, List.set_cons_zero, List.set_cons_succ])
      (refine takeH (i := 16) (v := ?_) (by decide +kernel) (by decide +kernel) (by kernel_rfl) (by rfl) (by exact fun _ _ _ h => h) (by rfl) ?_ (by assumption) ?_); rotate_left; (focus (intro w hSw; (try dsimp only at hSw); go_simp; (try with_reducible rfl); done)); (try simp only [Act.put, List.setIfInBounds_toArray, List.set_cons_zero, List.set_cons_succ])
      (refine takeH (i := 17) (v := ?_) (by decide +kernel) (by decide +kernel) (by kernel_rfl) (by rfl) (by exact fun _ _ _ h => h) (by rfl) ?_ (by assumption) ?_); rotate_left; (focus (intro w hSw; (try dsimp only at hSw); go_simp; (try with_reducible rfl); done)); (try simp only [Act.put, List.setIfInBounds_toArray, List.set_cons_zero, List.set_cons_succ])
      ((refine skipH (i := 18) (by decide +kernel) (by decide +kernel) (by kernel_rfl) (by rfl) (by exact fun _ _ _ h => h) (by rfl) (by assumption) ?_); (try simp only [Act.put, List.setIfInBounds_toArray, List.set_cons_zero, List.set_cons_succ]))
      ((refine skipH (i := 19) (by decide +kernel) (by decide +kernel) (by kernel_rfl) (by rfl) (by exact fun _ _ _ h => h) (by rfl) (by assumption) ?_); (try simp only [Act.put, List.setIfInBounds_toArray, List.set_cons_zero, List.set_cons_succ]))
      ((refine skipH (i := 20) (by decide +kernel) (by decide +kernel) (by kernel_rfl) (by rfl) (by exact fun _ _ _ h => h) (by rfl) (by assumption) ?_); (try simp only [Act.put, List.setIfInBounds_toArray, List.set_cons_zero, List.set_cons_succ]))
      ((refine skipH (i := 21) (by decide +kernel) (by decide +kernel) (by kernel_rfl) (by rfl) (by exact fun _ _ _ h => h) (by rfl) (by assumption) ?_); (try simp only [Act.put, List.setIfInBounds_toArray, List.set_cons_zero, List.set_cons_succ]))
      ((refine skipH (i := 22) (by decide +kernel) (by decide +kernel) (by kernel_rfl) (by rfl) (by exact fun _ _ _ h => h) (by rfl) (by assumption) ?_); (try simp only [Act.put, List.setIfInBounds_toArray, List.set_cons_zero, List.set_cons_succ]))
      (refine takeH (i := 23) (v := ?_) (by decide +kernel) (by decide +kernel) (by kernel_rfl) (by rfl) (by exact fun _ _ _ h => h) (by rfl) ?_ (by assumption) ?_); rotate_left; (focus (intro w hSw; (try dsimp only at hSw); go_simp; (try with_reducible rfl); done)); (try simp only [Act.put, List.setIfInBounds_toArray, List.set_cons_zero, List.set_cons_succ])
      (refine takeH (i := 24) (v := ?_) (by decide +kernel) (by decide +kernel) (by kernel_rfl) (by rfl) (by exact fun _ _ _ h => h) (by rfl) ?_ (by assumption) ?_); rotate_left; (focus (intro w hSw; (try dsimp only at hSw); go_simp; (try with_reducible rfl); done)); (try simp only [Act.put, List.setIfInBounds_toArray, List.set_cons_zero, List.set_cons_succ])
      refine wpAnyH_done (by decide +kernel) ?_ _
      have F4 := HF2.out.step HB4.out
      have A4 := HOU.out.below HB4.out
      obtain ⟨bx, bf⟩ := F4.at 0 rfl
      obtain ⟨x0, x1, x2⟩ := (⟨bx 0 _ rfl, bx 1 _ rfl, bx 2 _ rfl⟩ : _ ∧ _ ∧ _)
      obtain ⟨d0, d1, d2⟩ := (⟨F4.at 1 rfl 0 _ rfl, F4.at 1 rfl 1 _ rfl, F4.at 1 rfl 2 _ rfl⟩ : _ ∧ _ ∧ _)
      have zD : w.heap.size + 1 < w4.heap.size := F4.le 0 rfl
      have zE : w.heap.size < w4.heap.size := F4.le 1 rfl
      have pcell := (HR0.out _ F4.below).2.2
      have k0 := A4.sn.c0
      have k1 := A4.sn.c1
      have k2 := A4.c2
      have kf := A4.fz
      simp only [Nat.zero_add] at k0 k1
      have n1 := A4.sn.n1
      have n2 := A4.sn.n2
      have n3 := A4.sn.n3
      obtain ⟨n1', n2', n3'⟩ : ¬ sg = pg ∧ ¬ B = pg ∧ ¬ B = sg := ⟨fun e => n1 e.symm, fun e => n2 e.symm, fun e => n3 e.symm⟩
      have nbB := A4.sn.nb0
      have nbp := (A4.sn.op.lt pg rfl).1
      have nbs := (A4.sn.os.lt sg rfl).1
      obtain ⟨q1, q2, q3, q4, q5, q6⟩ : ¬ w.heap.size = B ∧ ¬ w.heap.size = pg ∧ ¬ w.heap.size = sg ∧ ¬ w.heap.size + 1 = B ∧ ¬ w.heap.size + 1 = pg ∧ ¬ w.heap.size + 1 = sg := by omega
      obtain ⟨q7, q8, q9⟩ : ¬ pb = B ∧ ¬ pb = pg ∧ ¬ pb = sg := by omega
      have HF := Lib.hid F4
      have HA := Lib.hid A4
      clear F4 A4 bx HF2 HOU HSK B0 HB4 hb4 hHeld HR0 HCW
      have ep := (HA.out.sn.op.cellAt x (by simp <;> omega)).trans (by simp [HX.out] : _ = some (.int .i64 v))
      have fp := HA.out.sn.op.frozenAt x
      go_upto_region 6 with fail
      go_quiet (fail)
      clear ep fp
      have D : Below w4.heap.size w4 (w4.drewN nq) := below_draws _ _ _
      have HA2 := Lib.hid (HA.out.below D)
      have HF2 := Lib.hid (HF.out.step D)
      have d0' : (w4.drewN nq).cell? ⟨w.heap.size, 0, none⟩ = _ := d0
      have d1' : (w4.drewN nq).cell? ⟨w.heap.size, 1, none⟩ = _ := d1
      have d2' : (w4.drewN nq).cell? ⟨w.heap.size, 2, none⟩ = _ := d2
      have x0' : (w4.drewN nq).cell? ⟨w.heap.size + 1, 0, none⟩ = _ := x0
      have x1' : (w4.drewN nq).cell? ⟨w.heap.size + 1, 1, none⟩ = _ := x1
      have x2' : (w4.drewN nq).cell? ⟨w.heap.size + 1, 2, none⟩ = _ := x2
      have bf' : ∀ o, (w4.drewN nq).frozen? ⟨w.heap.size + 1, o, none⟩ = false := bf
      have pc' : (w4.drewN nq).cell? ⟨pb, po + 2, none⟩ = _ := pcell
      have zD' : w.heap.size + 1 < (w4.drewN nq).heap.size := zD
      have zE' : w.heap.size < (w4.drewN nq).heap.size := zE
      clear d0 d1 d2 x0 x1 x2 bf pcell zD zE k0 k1 k2 kf HA HF D
      generalize w4.drewN nq = we at *
      have HA := HA2
      have HF := HF2
      have x0 := x0'
      have x1 := x1'
      have x2 := x2'
      have bf := bf'
      have zD := zD'
      have zE := zE'
      have d0 := d0'
      have d1 := d1'
      have d2 := d2'
      have pcell := pc'
      clear HA2 HF2 x0' x1' x2' bf' zD' zE' d0' d1' d2' pc'
      have k0 := HA.out.sn.c0
      have k1 := HA.out.sn.c1
      have k2 := HA.out.c2
      have kf := HA.out.fz
      simp only [Nat.zero_add] at k0 k1
      have ep := (HA.out.sn.op.cellAt x (by simp <;> omega)).trans (by simp [HX.out] : _ = some (.int .i64 v))
      have fp := HA.out.sn.op.frozenAt x
      go_upto_region 9 with fail
      clear ep fp
      have HA2 := Lib.hid (HA.out.pit x 0)
      have HB2 := Lib.hid (HF.out.low (show Below (w.heap.size + 1 + 1) we (we.setCell ⟨pg, x, none⟩ (.int .i64 0)) from (Below.refl _ _).setCell nbp _) (by omega) (by simp))
      have d0' : (we.setCell ⟨pg, x, none⟩ (.int .i64 0)).cell? ⟨w.heap.size, 0, none⟩ = _ := (cell_other (by omega)).trans d0
      have d1' : (we.setCell ⟨pg, x, none⟩ (.int .i64 0)).cell? ⟨w.heap.size, 1, none⟩ = _ := (cell_other (by omega)).trans d1
      have d2' : (we.setCell ⟨pg, x, none⟩ (.int .i64 0)).cell? ⟨w.heap.size, 2, none⟩ = _ := (cell_other (by omega)).trans d2
      have x0' : (we.setCell ⟨pg, x, none⟩ (.int .i64 0)).cell? ⟨w.heap.size + 1, 0, none⟩ = _ := (cell_other (by omega)).trans x0
      have x1' : (we.setCell ⟨pg, x, none⟩ (.int .i64 0)).cell? ⟨w.heap.size + 1, 1, none⟩ = _ := (cell_other (by omega)).trans x1
      have x2' : (we.setCell ⟨pg, x, none⟩ (.int .i64 0)).cell? ⟨w.heap.size + 1, 2, none⟩ = _ := (cell_other (by omega)).trans x2
      have bf' : ∀ o, (we.setCell ⟨pg, x, none⟩ (.int .i64 0)).frozen? ⟨w.heap.size + 1, o, none⟩ = false := fun o => by simpa using bf o
      have pc' : (we.setCell ⟨pg, x, none⟩ (.int .i64 0)).cell? ⟨pb, po + 2, none⟩ = _ := (cell_other (by omega)).trans pcell
      have zD' : w.heap.size + 1 < (we.setCell ⟨pg, x, none⟩ (.int .i64 0)).heap.size := by simp; exact zD
      have zE' : w.heap.size < (we.setCell ⟨pg, x, none⟩ (.int .i64 0)).heap.size := by simp; exact zE
      clear d0 d1 d2 x0 x1 x2 bf pcell zD zE k0 k1 k2 kf HA HF
      generalize (we.setCell ⟨pg, x, none⟩ (.int .i64 0)) = wf at *
      have HA := HA2
      have HF := HB2
      have x0 := x0'
      have x1 := x1'
      have x2 := x2'
      have bf := bf'
      have zD := zD'
      have zE := zE'
      have d0 := d0'
      have d1 := d1'
      have d2 := d2'
      have pcell := pc'
      clear HA2 HB2 x0' x1' x2' bf' zD' zE' d0' d1' d2' pc'
      have k0 := HA.out.sn.c0
      have k1 := HA.out.sn.c1
      have k2 := HA.out.c2
      have kf := HA.out.fz
      simp only [Nat.zero_add] at k0 k1
      have HO2 := Lib.hid (HA.out)
      have B1 := HF.out.below
      go_region
      go_wp2
      refine bodyPost_ret (v := .tuple #[P.val ⟨pits.set x 0, stores, pn⟩ (some ⟨pg, 0, none⟩) uc (some ⟨sg, 0, none⟩) vc, .int .i64 c, .bool true]) (by simp [results, Try.results57, go_sem, x0, x1, x2, bf, zD, P.val, P.cells]) rfl ?_
      refine ⟨?_, .inr ⟨_, ⟨_, _, _, _⟩, _, HS.out, rfl, ?_⟩⟩
      · repeat (first | (with_reducible exact B1) | ((with_reducible refine Below.setCell ?_ ?_ _); rotate_left; (simp <;> omega)) | (with_reducible refine Below.drew ?_) | (with_reducible exact Below.trans B1 (below_draws _ _ _)))
      have k9 := HO2.out.own (low := w.heap.size + 1 + 1) (Nat.le_refl _)
      refine ⟨?_, ?_, k9.apart⟩
      · have k0 := k9.pits
        dsimp only at k0 ⊢
        (try simp only [List.length_set] at k0)
        (try simp only [List.length_set])
        refine ownsRow_le (base := w.heap.size + 1 + 1) ?_ (by omega)
        repeat (first | (with_reducible exact k0) | (with_reducible refine World.ownsRow.drew ?_) | ((with_reducible refine ownsRow_setCell_below ?_ ?_ _); rotate_left; (simp <;> omega)))
      · have k0 := k9.stores
        dsimp only at k0 ⊢
        (try simp only [List.length_set] at k0)
        (try simp only [List.length_set])
        refine ownsRow_le (base := w.heap.size + 1 + 1) ?_ (by omega)
        repeat (first | (with_reducible exact k0) | (with_reducible refine World.ownsRow.drew ?_) | ((with_reducible refine ownsRow_setCell_below ?_ ?_ _); rotate_left; (simp <;> omega)))
    · have HS := Lib.hid (hST.trans (if_neg hvc))
      have hvc1 : (v == c) = false := by simpa using hvc
      have hvc2 : (v != c) = true := by simpa using hvc
      clear hST k2 hvc hc13
      go_enter Try.func57, Try.ntmps57
      go_wp2_with fail
      refine HOW.out.mono ?_
      rintro e w1 ⟨ua, uc, va, vc, rfl, ho, hb1⟩
      try simp only [World.size_alloc] at ho
      obtain ⟨pg, rfl, hp1, hp2⟩ := own_lt_n ho.pits HLP.out.1
      obtain ⟨sg, rfl, hs1, hs2⟩ := own_lt_n ho.stores HLP.out.2.1
      have zA : w.heap.size < w1.heap.size := (F0.step hb1).le 1 rfl
      have zB : w.heap.size + 1 < w1.heap.size := (F0.step hb1).le 0 rfl
      have F2 := (F0.step hb1).step (below_alloc1 w1 (.cells #[.slice (some ⟨pg, 0, none⟩) pits.length uc, .slice (some ⟨sg, 0, none⟩) stores.length vc, .int .i64 pn] 30))
      have HO2 := OuP.start (base := w.heap.size + 1 + 1) ho (Nat.le_refl _) zB 30
      obtain ⟨B, hB⟩ : ∃ B, B = w1.heap.size := ⟨_, rfl⟩
      obtain ⟨W2, hW2⟩ : ∃ W, W = (w1.alloc (.cells #[.slice (some ⟨pg, 0, none⟩) pits.length uc, .slice (some ⟨sg, 0, none⟩) stores.length vc, .int .i64 pn] 30)) := ⟨_, rfl⟩
      simp only at HO2
      rw [← hB, ← hW2] at HO2
      rw [← hW2] at F2
      have HF2 := Lib.hid F2
      have HOU := Lib.hid HO2
      have zC : w.heap.size < W2.heap.size := F2.le 1 rfl
      have HSK : Hid (∀ W, Below W2.heap.size W2 W → (W.cell? ⟨w.heap.size, 0, none⟩ = some (.int .i64 1) ∧ W.cell? ⟨w.heap.size, 1, none⟩ = some (.int .i64 x) ∧ W.cell? ⟨w.heap.size, 2, none⟩ = some (.int .i64 c) ∧ W.cell? ⟨rb, ro, none⟩ = some (.int .i64 r.pits) ∧ W.cell? ⟨rb, ro + 2, none⟩ = some (.bool r.stores))) := fun W hW => ⟨((bcell hW).1 _ _ zC).trans (HF2.out.at 1 rfl 0 _ rfl), ((bcell hW).1 _ _ zC).trans (HF2.out.at 1 rfl 1 _ rfl), ((bcell hW).1 _ _ zC).trans (HF2.out.at 1 rfl 2 _ rfl), (HR0.out _ (HF2.out.step hW).below).1, (HR0.out _ (HF2.out.step hW).below).2.1⟩
      have B0 : Hid (Below W2.heap.size W2 W2.drew) := (Below.refl _ _).drew
      clear ho hb1 F0 F2 HO2 hp1 hp2 hs1 hs2 zA zB HOW
      go_wp2_with fail
      try rw [← hW2]
      try simp only [← hB]
      clear hW2 hB
      refine heldH (S := fun W => W.cell? ⟨w.heap.size, 0, none⟩ = some (.int .i64 1) ∧ W.cell? ⟨w.heap.size, 1, none⟩ = some (.int .i64 x) ∧ W.cell? ⟨w.heap.size, 2, none⟩ = some (.int .i64 c) ∧ W.cell? ⟨rb, ro, none⟩ = some (.int .i64 r.pits) ∧ W.cell? ⟨rb, ro + 2, none⟩ = some (.bool r.stores)) (n := 25) (listed := #[false, false, false, false, false, false, false, false, false, false, false, false, false, false, false, false, false, false, false, false, false, false, false, false, false]) (by kernel_rfl) (by rfl) (by rfl) ?_ (fun hHeld => ?_)
      (focus ((try dsimp only); (first | done | (((refine HSK.out _ ?_; first | (with_reducible exact HB4.out) | exact B0.out)); done))))
      (refine takeH (i := 0) (v := ?_) (by decide +kernel) (by decide +kernel) (by kernel_rfl) (by rfl) (by exact fun _ _ _ h => h) (by rfl) ?_ (by assumption) ?_); rotate_left; (focus (intro w hSw; (try dsimp only at hSw); go_simp; (try with_reducible rfl); done)); (try simp only [Act.put, List.setIfInBounds_toArray, List.set_cons_zero, List.set_cons_succ])
      refine nextH (i := 1) (by decide +kernel) (by rfl) (by rfl) (fun K hK => ?_)
      go_simp
      ((go_at_call 106; (refine (HCW.out _).mono ?_); (rintro e w4 ⟨rfl, hb4⟩); (have HB4 := Lib.hid (below_next B0.out hb4))))
      refine hK.out _ _ ?_ (fun hHeld' => ?_)
      (focus ((try dsimp only); (first | done | (((refine HSK.out _ ?_; first | (with_reducible exact HB4.out) | exact B0.out)); done))))
      clear hK K hHeld
      have hHeld := hHeld'
      clear hHeld'
      (try simp only [Act.put, List.setIfInBounds_toArray, List.set_cons_zero, List.set_cons_succ])
      (refine takeH (i := 2) (v := ?_) (by decide +kernel) (by decide +kernel) (by kernel_rfl) (by rfl) (by exact fun _ _ _ h => h) (by rfl) ?_ (by assumption) ?_); rotate_left; (focus (intro w hSw; (try dsimp only at hSw); go_simp; (try with_reducible rfl); done)); (try simp only [Act.put, List.setIfInBounds_toArray, List.set_cons_zero, List.set_cons_succ])
      (refine takeH (i := 3) (v := ?_) (by decide +kernel) (by decide +kernel) (by kernel_rfl) (by rfl) (by exact fun _ _ _ h => h) (by rfl) ?_ (by assumption) ?_); rotate_left; (focus (intro w hSw; (try dsimp only at hSw); go_simp; (try with_reducible rfl); done)); (try simp only [Act.put, List.setIfInBounds_toArray, List.set_cons_zero, List.set_cons_succ])
      (refine takeH (i := 4) (v := ?_) (by decide +kernel) (by decide +kernel) (by kernel_rfl) (by rfl) (by exact fun _ _ _ h => h) (by rfl) ?_ (by assumption) ?_); rotate_left; (focus (intro w hSw; (try dsimp only at hSw); go_simp; (try with_reducible rfl); done)); (try simp only [Act.put, List.setIfInBounds_toArray, List.set_cons_zero, List.set_cons_succ])
      (refine takeH (i := 5) (v := ?_) (by decide +kernel) (by decide +kernel) (by kernel_rfl) (by rfl) (by exact fun _ _ _ h => h) (by rfl) ?_ (by assumption) ?_); rotate_left; (focus (intro w hSw; (try dsimp only at hSw); go_simp; (try with_reducible rfl); done)); (try simp only [Act.put, List.setIfInBounds_toArray, List.set_cons_zero, List.set_cons_succ])
      (refine takeH (i := 6) (v := ?_) (by decide +kernel) (by decide +kernel) (by kernel_rfl) (by rfl) (by exact fun _ _ _ h => h) (by rfl) ?_ (by assumption) ?_); rotate_left; (focus (intro w hSw; (try dsimp only at hSw); go_simp; (try with_reducible rfl); done)); (try simp only [Act.put, List.setIfInBounds_toArray, List.set_cons_zero, List.set_cons_succ])
      (refine takeH (i := 7) (v := ?_) (by decide +kernel) (by decide +kernel) (by kernel_rfl) (by rfl) (by exact fun _ _ _ h => h) (by rfl) ?_ (by assumption) ?_); rotate_left; (focus (intro w hSw; (try dsimp only at hSw); go_simp; (try with_reducible rfl); done)); (try simp only [Act.put, List.setIfInBounds_toArray, List.set_cons_zero, List.set_cons_succ])
      (refine takeH (i := 8) (v := ?_) (by decide +kernel) (by decide +kernel) (by kernel_rfl) (by rfl) (by exact fun _ _ _ h => h) (by rfl) ?_ (by assumption) ?_); rotate_left; (focus (intro w hSw; (try dsimp only at hSw); go_simp; (try with_reducible rfl); done)); (try simp only [Act.put, List.setIfInBounds_toArray, List.set_cons_zero, List.set_cons_succ])
      (refine takeH (i := 9) (v := ?_) (by decide +kernel) (by decide +kernel) (by kernel_rfl) (by rfl) (by exact fun _ _ _ h => h) (by rfl) ?_ (by assumption) ?_); rotate_left; (focus (intro w hSw; (try dsimp only at hSw); go_simp; (try with_reducible rfl); done)); (try simp only [Act.put, List.setIfInBounds_toArray, List.set_cons_zero, List.set_cons_succ])
      (refine takeH (i := 10) (v := ?_) (by decide +kernel) (by decide +kernel) (by kernel_rfl) (by rfl) (by exact fun _ _ _ h => h) (by rfl) ?_ (by assumption) ?_); rotate_left; (focus (intro w hSw; (try dsimp only at hSw); go_simp; (try with_reducible rfl); done)); (try simp only [Act.put, List.setIfInBounds_toArray, List.set_cons_zero, List.set_cons_succ])
      (refine takeH (i := 11) (v := ?_) (by decide +kernel) (by decide +kernel) (by kernel_rfl) (by rfl) (by exact fun _ _ _ h => h) (by rfl) ?_ (by assumption) ?_); rotate_left; (focus (intro w hSw; (try dsimp only at hSw); go_simp; (try with_reducible rfl); done)); (try simp only [Act.put, List.setIfInBounds_toArray, List.set_cons_zero, List.set_cons_succ])
      (refine takeH (i := 12) (v := ?_) (by decide +kernel) (by decide +kernel) (by kernel_rfl) (by rfl) (by exact fun _ _ _ h => h) (by rfl) ?_ (by assumption) ?_); rotate_left; (focus (intro w hSw; (try dsimp only at hSw); go_simp; (try with_reducible rfl); done)); (try simp only [Act.put, List.setIfInBounds_toArray, List.set_cons_zero, List.set_cons_succ])
      (refine takeH (i := 13) (v := ?_) (by decide +kernel) (by decide +kernel) (by kernel_rfl) (by rfl) (by exact fun _ _ _ h => h) (by rfl) ?_ (by assumption) ?_); rotate_left; (focus (intro w hSw; (try dsimp only at hSw); go_simp; (try with_reducible rfl); done)); (try simp only [Act.put, List.setIfInBounds_toArray, List.set_cons_zero, List.set_cons_succ])
      (refine takeH (i := 14) (v := ?_) (by decide +kernel) (by decide +kernel) (by kernel_rfl) (by rfl) (by exact fun _ _ _ h => h) (by rfl) ?_ (by assumption) ?_); rotate_left; (focus (intro w hSw; (try dsimp only at hSw); go_simp; (try with_reducible rfl); done)); (try simp only [Act.put, List.setIfInBounds_toArray, List.set_cons_zero, List.set_cons_succ])
      (refine takeH (i := 15) (v := ?_) (by decide +kernel) (by decide +kernel) (by kernel_rfl) (by rfl) (by exact fun _ _ _ h => h) (by rfl) ?_ (by assumption) ?_); rotate_left; (focus (intro w hSw; (try dsimp only at hSw); go_simp; (try with_reducible rfl); done)); (try simp only [Act.put, List.setIfInBounds_toArray, List.set_cons_zero, List.set_cons_succ])
      (refine takeH (i := 16) (v := ?_) (by decide +kernel) (by decide +kernel) (by kernel_rfl) (by rfl) (by exact fun _ _ _ h => h) (by rfl) ?_ (by assumption) ?_); rotate_left; (focus (intro w hSw; (try dsimp only at hSw); go_simp; (try with_reducible rfl); done)); (try simp only [Act.put, List.setIfInBounds_toArray, List.set_cons_zero, List.set_cons_succ])
      (refine takeH (i := 17) (v := ?_) (by decide +kernel) (by decide +kernel) (by kernel_rfl) (by rfl) (by exact fun _ _ _ h => h) (by rfl) ?_ (by assumption) ?_); rotate_left; (focus (intro w hSw; (try dsimp only at hSw); go_simp; (try with_reducible rfl); done)); (try simp only [Act.put, List.setIfInBounds_toArray, List.set_cons_zero, List.set_cons_succ])
      ((refine skipH (i := 18) (by decide +kernel) (by decide +kernel) (by kernel_rfl) (by rfl) (by exact fun _ _ _ h => h) (by rfl) (by assumption) ?_); (try simp only [Act.put, List.setIfInBounds_toArray, List.set_cons_zero, List.set_cons_succ]))
      ((refine skipH (i := 19) (by decide +kernel) (by decide +kernel) (by kernel_rfl) (by rfl) (by exact fun _ _ _ h => h) (by rfl) (by assumption) ?_); (try simp only [Act.put, List.setIfInBounds_toArray, List.set_cons_zero, List.set_cons_succ]))
      ((refine skipH (i := 20) (by decide +kernel) (by decide +kernel) (by kernel_rfl) (by rfl) (by exact fun _ _ _ h => h) (by rfl) (by assumption) ?_); (try simp only [Act.put, List.setIfInBounds_toArray, List.set_cons_zero, List.set_cons_succ]))
      ((refine skipH (i := 21) (by decide +kernel) (by decide +kernel) (by kernel_rfl) (by rfl) (by exact fun _ _ _ h => h) (by rfl) (by assumption) ?_); (try simp only [Act.put, List.setIfInBounds_toArray, List.set_cons_zero, List.set_cons_succ]))
      ((refine skipH (i := 22) (by decide +kernel) (by decide +kernel) (by kernel_rfl) (by rfl) (by exact fun _ _ _ h => h) (by rfl) (by assumption) ?_); (try simp only [Act.put, List.setIfInBounds_toArray, List.set_cons_zero, List.set_cons_succ]))
      (refine takeH (i := 23) (v := ?_) (by decide +kernel) (by decide +kernel) (by kernel_rfl) (by rfl) (by exact fun _ _ _ h => h) (by rfl) ?_ (by assumption) ?_); rotate_left; (focus (intro w hSw; (try dsimp only at hSw); go_simp; (try with_reducible rfl); done)); (try simp only [Act.put, List.setIfInBounds_toArray, List.set_cons_zero, List.set_cons_succ])
      (refine takeH (i := 24) (v := ?_) (by decide +kernel) (by decide +kernel) (by kernel_rfl) (by rfl) (by exact fun _ _ _ h => h) (by rfl) ?_ (by assumption) ?_); rotate_left; (focus (intro w hSw; (try dsimp only at hSw); go_simp; (try with_reducible rfl); done)); (try simp only [Act.put, List.setIfInBounds_toArray, List.set_cons_zero, List.set_cons_succ])
      refine wpAnyH_done (by decide +kernel) ?_ _
      have F4 := HF2.out.step HB4.out
      have A4 := HOU.out.below HB4.out
      obtain ⟨bx, bf⟩ := F4.at 0 rfl
      obtain ⟨x0, x1, x2⟩ := (⟨bx 0 _ rfl, bx 1 _ rfl, bx 2 _ rfl⟩ : _ ∧ _ ∧ _)
      obtain ⟨d0, d1, d2⟩ := (⟨F4.at 1 rfl 0 _ rfl, F4.at 1 rfl 1 _ rfl, F4.at 1 rfl 2 _ rfl⟩ : _ ∧ _ ∧ _)
      have zD : w.heap.size + 1 < w4.heap.size := F4.le 0 rfl
      have zE : w.heap.size < w4.heap.size := F4.le 1 rfl
      have pcell := (HR0.out _ F4.below).2.2
      have k0 := A4.sn.c0
      have k1 := A4.sn.c1
      have k2 := A4.c2
      have kf := A4.fz
      simp only [Nat.zero_add] at k0 k1
      have n1 := A4.sn.n1
      have n2 := A4.sn.n2
      have n3 := A4.sn.n3
      obtain ⟨n1', n2', n3'⟩ : ¬ sg = pg ∧ ¬ B = pg ∧ ¬ B = sg := ⟨fun e => n1 e.symm, fun e => n2 e.symm, fun e => n3 e.symm⟩
      have nbB := A4.sn.nb0
      have nbp := (A4.sn.op.lt pg rfl).1
      have nbs := (A4.sn.os.lt sg rfl).1
      obtain ⟨q1, q2, q3, q4, q5, q6⟩ : ¬ w.heap.size = B ∧ ¬ w.heap.size = pg ∧ ¬ w.heap.size = sg ∧ ¬ w.heap.size + 1 = B ∧ ¬ w.heap.size + 1 = pg ∧ ¬ w.heap.size + 1 = sg := by omega
      obtain ⟨q7, q8, q9⟩ : ¬ pb = B ∧ ¬ pb = pg ∧ ¬ pb = sg := by omega
      have HF := Lib.hid F4
      have HA := Lib.hid A4
      clear F4 A4 bx HF2 HOU HSK B0 HB4 hb4 hHeld HR0 HCW
      have ep := (HA.out.sn.op.cellAt x (by simp <;> omega)).trans (by simp [HX.out] : _ = some (.int .i64 v))
      have fp := HA.out.sn.op.frozenAt x
      have B1 := HF.out.below
      go_wp2
      go_quiet (fail)
      go_wp2
      refine bodyPost_ret (v := .tuple #[P.val ⟨pits, stores, pn⟩ (some ⟨pg, 0, none⟩) uc (some ⟨sg, 0, none⟩) vc, .int .i64 0, .bool false]) (by simp [results, Try.results57, go_sem, x0, x1, x2, bf, zD, P.val, P.cells]) rfl ?_
      refine ⟨?_, .inl ⟨HS.out, _, ⟨_, _, _, _⟩, _, rfl⟩⟩
      repeat (first | (with_reducible exact B1) | ((with_reducible refine Below.setCell ?_ ?_ _); rotate_left; (simp <;> omega)) | (with_reducible refine Below.drew ?_) | (with_reducible exact Below.trans B1 (below_draws _ _ _)))
  · rw [if_neg (by omega), if_pos rfl] at hST
    obtain ⟨hc1, hc9⟩ := hc13 (.inr rfl)
    by_cases hvc : v = c
    · have HS := Lib.hid (hST.trans (if_pos hvc))
      have hvc1 : (v == c) = true := by simpa using hvc
      have hvc2 : (v != c) = false := by simpa using hvc
      have HVC := Lib.hid hvc
      clear hST k2 hvc hc13
      go_enter Try.func57, Try.ntmps57
      go_wp2_with fail
      refine HOW.out.mono ?_
      rintro e w1 ⟨ua, uc, va, vc, rfl, ho, hb1⟩
      try simp only [World.size_alloc] at ho
      obtain ⟨pg, rfl, hp1, hp2⟩ := own_lt_n ho.pits HLP.out.1
      obtain ⟨sg, rfl, hs1, hs2⟩ := own_lt_n ho.stores HLP.out.2.1
      have zA : w.heap.size < w1.heap.size := (F0.step hb1).le 1 rfl
      have zB : w.heap.size + 1 < w1.heap.size := (F0.step hb1).le 0 rfl
      have F2 := (F0.step hb1).step (below_alloc1 w1 (.cells #[.slice (some ⟨pg, 0, none⟩) pits.length uc, .slice (some ⟨sg, 0, none⟩) stores.length vc, .int .i64 pn] 30))
      have HO2 := OuP.start (base := w.heap.size + 1 + 1) ho (Nat.le_refl _) zB 30
      obtain ⟨B, hB⟩ : ∃ B, B = w1.heap.size := ⟨_, rfl⟩
      obtain ⟨W2, hW2⟩ : ∃ W, W = (w1.alloc (.cells #[.slice (some ⟨pg, 0, none⟩) pits.length uc, .slice (some ⟨sg, 0, none⟩) stores.length vc, .int .i64 pn] 30)) := ⟨_, rfl⟩
      simp only at HO2
      rw [← hB, ← hW2] at HO2
      rw [← hW2] at F2
      have HF2 := Lib.hid F2
      have HOU := Lib.hid HO2
      have zC : w.heap.size < W2.heap.size := F2.le 1 rfl
      have HSK : Hid (∀ W, Below W2.heap.size W2 W → (W.cell? ⟨w.heap.size, 0, none⟩ = some (.int .i64 3) ∧ W.cell? ⟨w.heap.size, 1, none⟩ = some (.int .i64 x) ∧ W.cell? ⟨w.heap.size, 2, none⟩ = some (.int .i64 c) ∧ W.cell? ⟨rb, ro, none⟩ = some (.int .i64 r.pits) ∧ W.cell? ⟨rb, ro + 2, none⟩ = some (.bool r.stores))) := fun W hW => ⟨((bcell hW).1 _ _ zC).trans (HF2.out.at 1 rfl 0 _ rfl), ((bcell hW).1 _ _ zC).trans (HF2.out.at 1 rfl 1 _ rfl), ((bcell hW).1 _ _ zC).trans (HF2.out.at 1 rfl 2 _ rfl), (HR0.out _ (HF2.out.step hW).below).1, (HR0.out _ (HF2.out.step hW).below).2.1⟩
      have B0 : Hid (Below W2.heap.size W2 W2.drew) := (Below.refl _ _).drew
      clear ho hb1 F0 F2 HO2 hp1 hp2 hs1 hs2 zA zB HOW
      go_wp2_with fail
      try rw [← hW2]
      try simp only [← hB]
      clear hW2 hB
      refine heldH (S := fun W => W.cell? ⟨w.heap.size, 0, none⟩ = some (.int .i64 3) ∧ W.cell? ⟨w.heap.size, 1, none⟩ = some (.int .i64 x) ∧ W.cell? ⟨w.heap.size, 2, none⟩ = some (.int .i64 c) ∧ W.cell? ⟨rb, ro, none⟩ = some (.int .i64 r.pits) ∧ W.cell? ⟨rb, ro + 2, none⟩ = some (.bool r.stores)) (n := 25) (listed := #[false, false, false, false, false, false, false, false, false, false, false, false, false, false, false, false, false, false, false, false, false, false, false, false, false]) (by kernel_rfl) (by rfl) (by rfl) ?_ (fun hHeld => ?_)
      (focus ((try dsimp only); (first | done | (((refine HSK.out _ ?_; first | (with_reducible exact HB4.out) | exact B0.out)); done))))
      (refine takeH (i := 0) (v := ?_) (by decide +kernel) (by decide +kernel) (by kernel_rfl) (by rfl) (by exact fun _ _ _ h => h) (by rfl) ?_ (by assumption) ?_); rotate_left; (focus (intro w hSw; (try dsimp only at hSw); go_simp; (try with_reducible rfl); done)); (try simp only [Act.put, List.setIfInBounds_toArray, List.set_cons_zero, List.set_cons_succ])
      refine nextH (i := 1) (by decide +kernel) (by rfl) (by rfl) (fun K hK => ?_)
      go_simp
      ((go_at_call 106; (refine (HCW.out _).mono ?_); (rintro e w4 ⟨rfl, hb4⟩); (have HB4 := Lib.hid (below_next B0.out hb4))))
      refine hK.out _ _ ?_ (fun hHeld' => ?_)
      (focus ((try dsimp only); (first | done | (((refine HSK.out _ ?_; first | (with_reducible exact HB4.out) | exact B0.out)); done))))
      clear hK K hHeld
      have hHeld := hHeld'
      clear hHeld'
      (try simp only [Act.put, List.setIfInBounds_toArray, List.set_cons_zero, List.set_cons_succ])
      (refine takeH (i := 2) (v := ?_) (by decide +kernel) (by decide +kernel) (by kernel_rfl) (by rfl) (by exact fun _ _ _ h => h) (by rfl) ?_ (by assumption) ?_); rotate_left; (focus (intro w hSw; (try dsimp only at hSw); go_simp; (try with_reducible rfl); done)); (try simp only [Act.put, List.setIfInBounds_toArray, List.set_cons_zero, List.set_cons_succ])
      (refine takeH (i := 3) (v := ?_) (by decide +kernel) (by decide +kernel) (by kernel_rfl) (by rfl) (by exact fun _ _ _ h => h) (by rfl) ?_ (by assumption) ?_); rotate_left; (focus (intro w hSw; (try dsimp only at hSw); go_simp; (try with_reducible rfl); done)); (try simp only [Act.put, List.setIfInBounds_toArray, List.set_cons_zero, List.set_cons_succ])
      (refine takeH (i := 4) (v := ?_) (by decide +kernel) (by decide +kernel) (by kernel_rfl) (by rfl) (by exact fun _ _ _ h => h) (by rfl) ?_ (by assumption) ?_); rotate_left; (focus (intro w hSw; (try dsimp only at hSw); go_simp; (try with_reducible rfl); done)); (try simp only [Act.put, List.setIfInBounds_toArray, List.set_cons_zero, List.set_cons_succ])
      (refine takeH (i := 5) (v := ?_) (by decide +kernel) (by decide +kernel) (by kernel_rfl) (by rfl) (by exact fun _ _ _ h => h) (by rfl) ?_ (by assumption) ?_); rotate_left; (focus (intro w hSw; (try dsimp only at hSw); go_simp; (try with_reducible rfl); done)); (try simp only [Act.put, List.setIfInBounds_toArray, List.set_cons_zero, List.set_cons_succ])
      (refine takeH (i := 6) (v := ?_) (by decide +kernel) (by decide +kernel) (by kernel_rfl) (by rfl) (by exact fun _ _ _ h => h) (by rfl) ?_ (by assumption) ?_); rotate_left; (focus (intro w hSw; (try dsimp only at hSw); go_simp; (try with_reducible rfl); done)); (try simp only [Act.put, List.setIfInBounds_toArray, List.set_cons_zero, List.set_cons_succ])
      (refine takeH (i := 7) (v := ?_) (by decide +kernel) (by decide +kernel) (by kernel_rfl) (by rfl) (by exact fun _ _ _ h => h) (by rfl) ?_ (by assumption) ?_); rotate_left; (focus (intro w hSw; (try dsimp only at hSw); go_simp; (try with_reducible rfl); done)); (try simp only [Act.put, List.setIfInBounds_toArray, List.set_cons_zero, List.set_cons_succ])
      (refine takeH (i := 8) (v := ?_) (by decide +kernel) (by decide +kernel) (by kernel_rfl) (by rfl) (by exact fun _ _ _ h => h) (by rfl) ?_ (by assumption) ?_); rotate_left; (focus (intro w hSw; (try dsimp only at hSw); go_simp; (try with_reducible rfl); done)); (try simp only [Act.put, List.setIfInBounds_toArray, List.set_cons_zero, List.set_cons_succ])
      (refine takeH (i := 9) (v := ?_) (by decide +kernel) (by decide +kernel) (by kernel_rfl) (by rfl) (by exact fun _ _ _ h => h) (by rfl) ?_ (by assumption) ?_); rotate_left; (focus (intro w hSw; (try dsimp only at hSw); go_simp; (try with_reducible rfl); done)); (try simp only [Act.put, List.setIfInBounds_toArray, List.set_cons_zero, List.set_cons_succ])
      (refine takeH (i := 10) (v := ?_) (by decide +kernel) (by decide +kernel) (by kernel_rfl) (by rfl) (by exact fun _ _ _ h => h) (by rfl) ?_ (by assumption) ?_); rotate_left; (focus (intro w hSw; (try dsimp only at hSw); go_simp; (try with_reducible rfl); done)); (try simp only [Act.put, List.setIfInBounds_toArray, List.set_cons_zero, List.set_cons_succ])
      (refine takeH (i := 11) (v := ?_) (by decide +kernel) (by decide +kernel) (by kernel_rfl) (by rfl) (by exact fun _ _ _ h => h) (by rfl) ?_ (by assumption) ?_); rotate_left; (focus (intro w hSw; (try dsimp only at hSw); go_simp; (try with_reducible rfl); done)); (try simp only [Act.put, List.setIfInBounds_toArray, List.set_cons_zero, List.set_cons_succ])
      (refine takeH (i := 12) (v := ?_) (by decide +kernel) (by decide +kernel) (by kernel_rfl) (by rfl) (by exact fun _ _ _ h => h) (by rfl) ?_ (by assumption) ?_); rotate_left; (focus (intro w hSw; (try dsimp only at hSw); go_simp; (try with_reducible rfl); done)); (try simp only [Act.put, List.setIfInBounds_toArray, List.set_cons_zero, List.set_cons_succ])
      (refine takeH (i := 13) (v := ?_) (by decide +kernel) (by decide +kernel) (by kernel_rfl) (by rfl) (by exact fun _ _ _ h => h) (by rfl) ?_ (by assumption) ?_); rotate_left; (focus (intro w hSw; (try dsimp only at hSw); go_simp; (try with_reducible rfl); done)); (try simp only [Act.put, List.setIfInBounds_toArray, List.set_cons_zero, List.set_cons_succ])
      (refine takeH (i := 14) (v := ?_) (by decide +kernel) (by decide +kernel) (by kernel_rfl) (by rfl) (by exact fun _ _ _ h => h) (by rfl) ?_ (by assumption) ?_); rotate_left; (focus (intro w hSw; (try dsimp only at hSw); go_simp; (try with_reducible rfl); done)); (try simp only [Act.put, List.setIfInBounds_toArray, List.set_cons_zero, List.set_cons_succ])
      (refine takeH (i := 15) (v := ?_) (by decide +kernel) (by decide +kernel) (by kernel_rfl) (by rfl) (by exact fun _ _ _ h => h) (by rfl) ?_ (by assumption) ?_); rotate_left; (focus (intro w hSw; (try dsimp only at hSw); go_simp; (try with_reducible rfl); done)); (try simp only [Act.put, List.setIfInBounds_toArray, List.set_cons_zero, List.set_cons_succ])
      (refine takeH (i := 16) (v := ?_) (by decide +kernel) (by decide +kernel) (by kernel_rfl) (by rfl) (by exact fun _ _ _ h => h) (by rfl) ?_ (by assumption) ?_); rotate_left; (focus (intro w hSw; (try dsimp only at hSw); go_simp; (try with_reducible rfl); done)); (try simp only [Act.put, List.setIfInBounds_toArray, List.set_cons_zero, List.set_cons_succ])
      (refine takeH (i := 17) (v := ?_) (by decide +kernel) (by decide +kernel) (by kernel_rfl) (by rfl) (by exact fun _ _ _ h => h) (by rfl) ?_ (by assumption) ?_); rotate_left; (focus (intro w hSw; (try dsimp only at hSw); go_simp; (try with_reducible rfl); done)); (try simp only [Act.put, List.setIfInBounds_toArray, List.set_cons_zero, List.set_cons_succ])
      ((refine skipH (i := 18) (by decide +kernel) (by decide +kernel) (by kernel_rfl) (by rfl) (by exact fun _ _ _ h => h) (by rfl) (by assumption) ?_); (try simp only [Act.put, List.setIfInBounds_toArray, List.set_cons_zero, List.set_cons_succ]))
      ((refine skipH (i := 19) (by decide +kernel) (by decide +kernel) (by kernel_rfl) (by rfl) (by exact fun _ _ _ h => h) (by rfl) (by assumption) ?_); (try simp only [Act.put, List.setIfInBounds_toArray, List.set_cons_zero, List.set_cons_succ]))
      ((refine skipH (i := 20) (by decide +kernel) (by decide +kernel) (by kernel_rfl) (by rfl) (by exact fun _ _ _ h => h) (by rfl) (by assumption) ?_); (try simp only [Act.put, List.setIfInBounds_toArray, List.set_cons_zero, List.set_cons_succ]))
      ((refine skipH (i := 21) (by decide +kernel) (by decide +kernel) (by kernel_rfl) (by rfl) (by exact fun _ _ _ h => h) (by rfl) (by assumption) ?_); (try simp only [Act.put, List.setIfInBounds_toArray, List.set_cons_zero, List.set_cons_succ]))
      ((refine skipH (i := 22) (by decide +kernel) (by decide +kernel) (by kernel_rfl) (by rfl) (by exact fun _ _ _ h => h) (by rfl) (by assumption) ?_); (try simp only [Act.put, List.setIfInBounds_toArray, List.set_cons_zero, List.set_cons_succ]))
      (refine takeH (i := 23) (v := ?_) (by decide +kernel) (by decide +kernel) (by kernel_rfl) (by rfl) (by exact fun _ _ _ h => h) (by rfl) ?_ (by assumption) ?_); rotate_left; (focus (intro w hSw; (try dsimp only at hSw); go_simp; (try with_reducible rfl); done)); (try simp only [Act.put, List.setIfInBounds_toArray, List.set_cons_zero, List.set_cons_succ])
      (refine takeH (i := 24) (v := ?_) (by decide +kernel) (by decide +kernel) (by kernel_rfl) (by rfl) (by exact fun _ _ _ h => h) (by rfl) ?_ (by assumption) ?_); rotate_left; (focus (intro w hSw; (try dsimp only at hSw); go_simp; (try with_reducible rfl); done)); (try simp only [Act.put, List.setIfInBounds_toArray, List.set_cons_zero, List.set_cons_succ])
      refine wpAnyH_done (by decide +kernel) ?_ _
      have F4 := HF2.out.step HB4.out
      have A4 := HOU.out.below HB4.out
      obtain ⟨bx, bf⟩ := F4.at 0 rfl
      obtain ⟨x0, x1, x2⟩ := (⟨bx 0 _ rfl, bx 1 _ rfl, bx 2 _ rfl⟩ : _ ∧ _ ∧ _)
      obtain ⟨d0, d1, d2⟩ := (⟨F4.at 1 rfl 0 _ rfl, F4.at 1 rfl 1 _ rfl, F4.at 1 rfl 2 _ rfl⟩ : _ ∧ _ ∧ _)
      have zD : w.heap.size + 1 < w4.heap.size := F4.le 0 rfl
      have zE : w.heap.size < w4.heap.size := F4.le 1 rfl
      have pcell := (HR0.out _ F4.below).2.2
      have k0 := A4.sn.c0
      have k1 := A4.sn.c1
      have k2 := A4.c2
      have kf := A4.fz
      simp only [Nat.zero_add] at k0 k1
      have n1 := A4.sn.n1
      have n2 := A4.sn.n2
      have n3 := A4.sn.n3
      obtain ⟨n1', n2', n3'⟩ : ¬ sg = pg ∧ ¬ B = pg ∧ ¬ B = sg := ⟨fun e => n1 e.symm, fun e => n2 e.symm, fun e => n3 e.symm⟩
      have nbB := A4.sn.nb0
      have nbp := (A4.sn.op.lt pg rfl).1
      have nbs := (A4.sn.os.lt sg rfl).1
      obtain ⟨q1, q2, q3, q4, q5, q6⟩ : ¬ w.heap.size = B ∧ ¬ w.heap.size = pg ∧ ¬ w.heap.size = sg ∧ ¬ w.heap.size + 1 = B ∧ ¬ w.heap.size + 1 = pg ∧ ¬ w.heap.size + 1 = sg := by omega
      obtain ⟨q7, q8, q9⟩ : ¬ pb = B ∧ ¬ pb = pg ∧ ¬ pb = sg := by omega
      have HF := Lib.hid F4
      have HA := Lib.hid A4
      clear F4 A4 bx HF2 HOU HSK B0 HB4 hb4 hHeld HR0 HCW
      have ep := (HA.out.sn.op.cellAt x (by simp <;> omega)).trans (by simp [HX.out] : _ = some (.int .i64 v))
      have fp := HA.out.sn.op.frozenAt x
      go_upto_region 18 with fail
      go_quiet (fail)
      clear ep fp
      have D : Below w4.heap.size w4 (w4.drewN nq) := below_draws _ _ _
      have HA2 := Lib.hid (HA.out.below D)
      have HF2 := Lib.hid (HF.out.step D)
      have d0' : (w4.drewN nq).cell? ⟨w.heap.size, 0, none⟩ = _ := d0
      have d1' : (w4.drewN nq).cell? ⟨w.heap.size, 1, none⟩ = _ := d1
      have d2' : (w4.drewN nq).cell? ⟨w.heap.size, 2, none⟩ = _ := d2
      have x0' : (w4.drewN nq).cell? ⟨w.heap.size + 1, 0, none⟩ = _ := x0
      have x1' : (w4.drewN nq).cell? ⟨w.heap.size + 1, 1, none⟩ = _ := x1
      have x2' : (w4.drewN nq).cell? ⟨w.heap.size + 1, 2, none⟩ = _ := x2
      have bf' : ∀ o, (w4.drewN nq).frozen? ⟨w.heap.size + 1, o, none⟩ = false := bf
      have pc' : (w4.drewN nq).cell? ⟨pb, po + 2, none⟩ = _ := pcell
      have zD' : w.heap.size + 1 < (w4.drewN nq).heap.size := zD
      have zE' : w.heap.size < (w4.drewN nq).heap.size := zE
      clear d0 d1 d2 x0 x1 x2 bf pcell zD zE k0 k1 k2 kf HA HF D
      generalize w4.drewN nq = we at *
      have HA := HA2
      have HF := HF2
      have x0 := x0'
      have x1 := x1'
      have x2 := x2'
      have bf := bf'
      have zD := zD'
      have zE := zE'
      have d0 := d0'
      have d1 := d1'
      have d2 := d2'
      have pcell := pc'
      clear HA2 HF2 x0' x1' x2' bf' zD' zE' d0' d1' d2' pc'
      have k0 := HA.out.sn.c0
      have k1 := HA.out.sn.c1
      have k2 := HA.out.c2
      have kf := HA.out.fz
      simp only [Nat.zero_add] at k0 k1
      have ep := (HA.out.sn.op.cellAt x (by simp <;> omega)).trans (by simp [HX.out] : _ = some (.int .i64 v))
      have fp := HA.out.sn.op.frozenAt x
      go_upto_region 21 with fail
      clear ep fp
      have HA2 := Lib.hid (HA.out.pit x 0)
      have HB2 := Lib.hid (HF.out.low (show Below (w.heap.size + 1 + 1) we (we.setCell ⟨pg, x, none⟩ (.int .i64 0)) from (Below.refl _ _).setCell nbp _) (by omega) (by simp))
      have d0' : (we.setCell ⟨pg, x, none⟩ (.int .i64 0)).cell? ⟨w.heap.size, 0, none⟩ = _ := (cell_other (by omega)).trans d0
      have d1' : (we.setCell ⟨pg, x, none⟩ (.int .i64 0)).cell? ⟨w.heap.size, 1, none⟩ = _ := (cell_other (by omega)).trans d1
      have d2' : (we.setCell ⟨pg, x, none⟩ (.int .i64 0)).cell? ⟨w.heap.size, 2, none⟩ = _ := (cell_other (by omega)).trans d2
      have x0' : (we.setCell ⟨pg, x, none⟩ (.int .i64 0)).cell? ⟨w.heap.size + 1, 0, none⟩ = _ := (cell_other (by omega)).trans x0
      have x1' : (we.setCell ⟨pg, x, none⟩ (.int .i64 0)).cell? ⟨w.heap.size + 1, 1, none⟩ = _ := (cell_other (by omega)).trans x1
      have x2' : (we.setCell ⟨pg, x, none⟩ (.int .i64 0)).cell? ⟨w.heap.size + 1, 2, none⟩ = _ := (cell_other (by omega)).trans x2
      have bf' : ∀ o, (we.setCell ⟨pg, x, none⟩ (.int .i64 0)).frozen? ⟨w.heap.size + 1, o, none⟩ = false := fun o => by simpa using bf o
      have pc' : (we.setCell ⟨pg, x, none⟩ (.int .i64 0)).cell? ⟨pb, po + 2, none⟩ = _ := (cell_other (by omega)).trans pcell
      have zD' : w.heap.size + 1 < (we.setCell ⟨pg, x, none⟩ (.int .i64 0)).heap.size := by simp; exact zD
      have zE' : w.heap.size < (we.setCell ⟨pg, x, none⟩ (.int .i64 0)).heap.size := by simp; exact zE
      clear d0 d1 d2 x0 x1 x2 bf pcell zD zE k0 k1 k2 kf HA HF
      generalize (we.setCell ⟨pg, x, none⟩ (.int .i64 0)) = wf at *
      have HA := HA2
      have HF := HB2
      have x0 := x0'
      have x1 := x1'
      have x2 := x2'
      have bf := bf'
      have zD := zD'
      have zE := zE'
      have d0 := d0'
      have d1 := d1'
      have d2 := d2'
      have pcell := pc'
      clear HA2 HB2 x0' x1' x2' bf' zD' zE' d0' d1' d2' pc'
      have k0 := HA.out.sn.c0
      have k1 := HA.out.sn.c1
      have k2 := HA.out.c2
      have kf := HA.out.fz
      simp only [Nat.zero_add] at k0 k1
      have es := (HA.out.sn.os.cellAt pn (by simp <;> omega)).trans (by simp [HY.out] : _ = some (.int .i64 y))
      have fs := HA.out.sn.os.frozenAt pn
      go_still_tail 12, (by kernel_rfl)
      clear es fs
      change wpList _ _ _ _ _ wf.drew
      have D : Below wf.heap.size wf wf.drew := (Below.refl _ _).drew
      have HA2 := Lib.hid (HA.out.below D)
      have HF2 := Lib.hid (HF.out.step D)
      have d0' : wf.drew.cell? ⟨w.heap.size, 0, none⟩ = _ := d0
      have d1' : wf.drew.cell? ⟨w.heap.size, 1, none⟩ = _ := d1
      have d2' : wf.drew.cell? ⟨w.heap.size, 2, none⟩ = _ := d2
      have x0' : wf.drew.cell? ⟨w.heap.size + 1, 0, none⟩ = _ := x0
      have x1' : wf.drew.cell? ⟨w.heap.size + 1, 1, none⟩ = _ := x1
      have x2' : wf.drew.cell? ⟨w.heap.size + 1, 2, none⟩ = _ := x2
      have bf' : ∀ o, wf.drew.frozen? ⟨w.heap.size + 1, o, none⟩ = false := bf
      have pc' : wf.drew.cell? ⟨pb, po + 2, none⟩ = _ := pcell
      have zD' : w.heap.size + 1 < wf.drew.heap.size := zD
      have zE' : w.heap.size < wf.drew.heap.size := zE
      clear d0 d1 d2 x0 x1 x2 bf pcell zD zE k0 k1 k2 kf HA HF D
      generalize wf.drew = wg at *
      have HA := HA2
      have HF := HF2
      have x0 := x0'
      have x1 := x1'
      have x2 := x2'
      have bf := bf'
      have zD := zD'
      have zE := zE'
      have d0 := d0'
      have d1 := d1'
      have d2 := d2'
      have pcell := pc'
      clear HA2 HF2 x0' x1' x2' bf' zD' zE' d0' d1' d2' pc'
      have k0 := HA.out.sn.c0
      have k1 := HA.out.sn.c1
      have k2 := HA.out.c2
      have kf := HA.out.fz
      simp only [Nat.zero_add] at k0 k1
      have es := (HA.out.sn.os.cellAt pn (by simp <;> omega)).trans (by simp [HY.out] : _ = some (.int .i64 y))
      have fs := HA.out.sn.os.frozenAt pn
      go_upto_region 24 with fail
      clear es fs
      have HA2 := Lib.hid (HA.out.sto pn (y + c))
      have HB2 := Lib.hid (HF.out.low (show Below (w.heap.size + 1 + 1) wg (wg.setCell ⟨sg, pn, none⟩ (.int .i64 (y + c))) from (Below.refl _ _).setCell nbs _) (by omega) (by simp))
      have d0' : (wg.setCell ⟨sg, pn, none⟩ (.int .i64 (y + c))).cell? ⟨w.heap.size, 0, none⟩ = _ := (cell_other (by omega)).trans d0
      have d1' : (wg.setCell ⟨sg, pn, none⟩ (.int .i64 (y + c))).cell? ⟨w.heap.size, 1, none⟩ = _ := (cell_other (by omega)).trans d1
      have d2' : (wg.setCell ⟨sg, pn, none⟩ (.int .i64 (y + c))).cell? ⟨w.heap.size, 2, none⟩ = _ := (cell_other (by omega)).trans d2
      have x0' : (wg.setCell ⟨sg, pn, none⟩ (.int .i64 (y + c))).cell? ⟨w.heap.size + 1, 0, none⟩ = _ := (cell_other (by omega)).trans x0
      have x1' : (wg.setCell ⟨sg, pn, none⟩ (.int .i64 (y + c))).cell? ⟨w.heap.size + 1, 1, none⟩ = _ := (cell_other (by omega)).trans x1
      have x2' : (wg.setCell ⟨sg, pn, none⟩ (.int .i64 (y + c))).cell? ⟨w.heap.size + 1, 2, none⟩ = _ := (cell_other (by omega)).trans x2
      have bf' : ∀ o, (wg.setCell ⟨sg, pn, none⟩ (.int .i64 (y + c))).frozen? ⟨w.heap.size + 1, o, none⟩ = false := fun o => by simpa using bf o
      have pc' : (wg.setCell ⟨sg, pn, none⟩ (.int .i64 (y + c))).cell? ⟨pb, po + 2, none⟩ = _ := (cell_other (by omega)).trans pcell
      have zD' : w.heap.size + 1 < (wg.setCell ⟨sg, pn, none⟩ (.int .i64 (y + c))).heap.size := by simp; exact zD
      have zE' : w.heap.size < (wg.setCell ⟨sg, pn, none⟩ (.int .i64 (y + c))).heap.size := by simp; exact zE
      clear d0 d1 d2 x0 x1 x2 bf pcell zD zE k0 k1 k2 kf HA HF
      generalize (wg.setCell ⟨sg, pn, none⟩ (.int .i64 (y + c))) = wh at *
      have HA := HA2
      have HF := HB2
      have x0 := x0'
      have x1 := x1'
      have x2 := x2'
      have bf := bf'
      have zD := zD'
      have zE := zE'
      have d0 := d0'
      have d1 := d1'
      have d2 := d2'
      have pcell := pc'
      clear HA2 HB2 x0' x1' x2' bf' zD' zE' d0' d1' d2' pc'
      have k0 := HA.out.sn.c0
      have k1 := HA.out.sn.c1
      have k2 := HA.out.c2
      have kf := HA.out.fz
      simp only [Nat.zero_add] at k0 k1
      have HO2 := Lib.hid (HA.out)
      have B1 := HF.out.below
      go_wp2
      refine bodyPost_ret (v := .tuple #[P.val ⟨pits.set x 0, stores.set pn (y + c), pn⟩ (some ⟨pg, 0, none⟩) uc (some ⟨sg, 0, none⟩) vc, .int .i64 0, .bool true]) (by simp [results, Try.results57, go_sem, x0, x1, x2, bf, zD, P.val, P.cells]) rfl ?_
      refine ⟨?_, .inr ⟨_, ⟨_, _, _, _⟩, _, HS.out, rfl, ?_⟩⟩
      · repeat (first | (with_reducible exact B1) | ((with_reducible refine Below.setCell ?_ ?_ _); rotate_left; (simp <;> omega)) | (with_reducible refine Below.drew ?_) | (with_reducible exact Below.trans B1 (below_draws _ _ _)))
      have k9 := HO2.out.own (low := w.heap.size + 1 + 1) (Nat.le_refl _)
      refine ⟨?_, ?_, k9.apart⟩
      · have k0 := k9.pits
        dsimp only at k0 ⊢
        (try simp only [List.length_set] at k0)
        (try simp only [List.length_set])
        refine ownsRow_le (base := w.heap.size + 1 + 1) ?_ (by omega)
        repeat (first | (with_reducible exact k0) | (with_reducible refine World.ownsRow.drew ?_) | ((with_reducible refine ownsRow_setCell_below ?_ ?_ _); rotate_left; (simp <;> omega)))
      · have k0 := k9.stores
        dsimp only at k0 ⊢
        (try simp only [List.length_set] at k0)
        (try simp only [List.length_set])
        refine ownsRow_le (base := w.heap.size + 1 + 1) ?_ (by omega)
        repeat (first | (with_reducible exact k0) | (with_reducible refine World.ownsRow.drew ?_) | ((with_reducible refine ownsRow_setCell_below ?_ ?_ _); rotate_left; (simp <;> omega)))
    · have HS := Lib.hid (hST.trans (if_neg hvc))
      have hvc1 : (v == c) = false := by simpa using hvc
      have hvc2 : (v != c) = true := by simpa using hvc
      clear hST k2 hvc hc13
      go_enter Try.func57, Try.ntmps57
      go_wp2_with fail
      refine HOW.out.mono ?_
      rintro e w1 ⟨ua, uc, va, vc, rfl, ho, hb1⟩
      try simp only [World.size_alloc] at ho
      obtain ⟨pg, rfl, hp1, hp2⟩ := own_lt_n ho.pits HLP.out.1
      obtain ⟨sg, rfl, hs1, hs2⟩ := own_lt_n ho.stores HLP.out.2.1
      have zA : w.heap.size < w1.heap.size := (F0.step hb1).le 1 rfl
      have zB : w.heap.size + 1 < w1.heap.size := (F0.step hb1).le 0 rfl
      have F2 := (F0.step hb1).step (below_alloc1 w1 (.cells #[.slice (some ⟨pg, 0, none⟩) pits.length uc, .slice (some ⟨sg, 0, none⟩) stores.length vc, .int .i64 pn] 30))
      have HO2 := OuP.start (base := w.heap.size + 1 + 1) ho (Nat.le_refl _) zB 30
      obtain ⟨B, hB⟩ : ∃ B, B = w1.heap.size := ⟨_, rfl⟩
      obtain ⟨W2, hW2⟩ : ∃ W, W = (w1.alloc (.cells #[.slice (some ⟨pg, 0, none⟩) pits.length uc, .slice (some ⟨sg, 0, none⟩) stores.length vc, .int .i64 pn] 30)) := ⟨_, rfl⟩
      simp only at HO2
      rw [← hB, ← hW2] at HO2
      rw [← hW2] at F2
      have HF2 := Lib.hid F2
      have HOU := Lib.hid HO2
      have zC : w.heap.size < W2.heap.size := F2.le 1 rfl
      have HSK : Hid (∀ W, Below W2.heap.size W2 W → (W.cell? ⟨w.heap.size, 0, none⟩ = some (.int .i64 3) ∧ W.cell? ⟨w.heap.size, 1, none⟩ = some (.int .i64 x) ∧ W.cell? ⟨w.heap.size, 2, none⟩ = some (.int .i64 c) ∧ W.cell? ⟨rb, ro, none⟩ = some (.int .i64 r.pits) ∧ W.cell? ⟨rb, ro + 2, none⟩ = some (.bool r.stores))) := fun W hW => ⟨((bcell hW).1 _ _ zC).trans (HF2.out.at 1 rfl 0 _ rfl), ((bcell hW).1 _ _ zC).trans (HF2.out.at 1 rfl 1 _ rfl), ((bcell hW).1 _ _ zC).trans (HF2.out.at 1 rfl 2 _ rfl), (HR0.out _ (HF2.out.step hW).below).1, (HR0.out _ (HF2.out.step hW).below).2.1⟩
      have B0 : Hid (Below W2.heap.size W2 W2.drew) := (Below.refl _ _).drew
      clear ho hb1 F0 F2 HO2 hp1 hp2 hs1 hs2 zA zB HOW
      go_wp2_with fail
      try rw [← hW2]
      try simp only [← hB]
      clear hW2 hB
      refine heldH (S := fun W => W.cell? ⟨w.heap.size, 0, none⟩ = some (.int .i64 3) ∧ W.cell? ⟨w.heap.size, 1, none⟩ = some (.int .i64 x) ∧ W.cell? ⟨w.heap.size, 2, none⟩ = some (.int .i64 c) ∧ W.cell? ⟨rb, ro, none⟩ = some (.int .i64 r.pits) ∧ W.cell? ⟨rb, ro + 2, none⟩ = some (.bool r.stores)) (n := 25) (listed := #[false, false, false, false, false, false, false, false, false, false, false, false, false, false, false, false, false, false, false, false, false, false, false, false, false]) (by kernel_rfl) (by rfl) (by rfl) ?_ (fun hHeld => ?_)
      (focus ((try dsimp only); (first | done | (((refine HSK.out _ ?_; first | (with_reducible exact HB4.out) | exact B0.out)); done))))
      (refine takeH (i := 0) (v := ?_) (by decide +kernel) (by decide +kernel) (by kernel_rfl) (by rfl) (by exact fun _ _ _ h => h) (by rfl) ?_ (by assumption) ?_); rotate_left; (focus (intro w hSw; (try dsimp only at hSw); go_simp; (try with_reducible rfl); done)); (try simp only [Act.put, List.setIfInBounds_toArray, List.set_cons_zero, List.set_cons_succ])
      refine nextH (i := 1) (by decide +kernel) (by rfl) (by rfl) (fun K hK => ?_)
      go_simp
      ((go_at_call 106; (refine (HCW.out _).mono ?_); (rintro e w4 ⟨rfl, hb4⟩); (have HB4 := Lib.hid (below_next B0.out hb4))))
      refine hK.out _ _ ?_ (fun hHeld' => ?_)
      (focus ((try dsimp only); (first | done | (((refine HSK.out _ ?_; first | (with_reducible exact HB4.out) | exact B0.out)); done))))
      clear hK K hHeld
      have hHeld := hHeld'
      clear hHeld'
      (try simp only [Act.put, List.setIfInBounds_toArray, List.set_cons_zero, List.set_cons_succ])
      (refine takeH (i := 2) (v := ?_) (by decide +kernel) (by decide +kernel) (by kernel_rfl) (by rfl) (by exact fun _ _ _ h => h) (by rfl) ?_ (by assumption) ?_); rotate_left; (focus (intro w hSw; (try dsimp only at hSw); go_simp; (try with_reducible rfl); done)); (try simp only [Act.put, List.setIfInBounds_toArray, List.set_cons_zero, List.set_cons_succ])
      (refine takeH (i := 3) (v := ?_) (by decide +kernel) (by decide +kernel) (by kernel_rfl) (by rfl) (by exact fun _ _ _ h => h) (by rfl) ?_ (by assumption) ?_); rotate_left; (focus (intro w hSw; (try dsimp only at hSw); go_simp; (try with_reducible rfl); done)); (try simp only [Act.put, List.setIfInBounds_toArray, List.set_cons_zero, List.set_cons_succ])
      (refine takeH (i := 4) (v := ?_) (by decide +kernel) (by decide +kernel) (by kernel_rfl) (by rfl) (by exact fun _ _ _ h => h) (by rfl) ?_ (by assumption) ?_); rotate_left; (focus (intro w hSw; (try dsimp only at hSw); go_simp; (try with_reducible rfl); done)); (try simp only [Act.put, List.setIfInBounds_toArray, List.set_cons_zero, List.set_cons_succ])
      (refine takeH (i := 5) (v := ?_) (by decide +kernel) (by decide +kernel) (by kernel_rfl) (by rfl) (by exact fun _ _ _ h => h) (by rfl) ?_ (by assumption) ?_); rotate_left; (focus (intro w hSw; (try dsimp only at hSw); go_simp; (try with_reducible rfl); done)); (try simp only [Act.put, List.setIfInBounds_toArray, List.set_cons_zero, List.set_cons_succ])
      (refine takeH (i := 6) (v := ?_) (by decide +kernel) (by decide +kernel) (by kernel_rfl) (by rfl) (by exact fun _ _ _ h => h) (by rfl) ?_ (by assumption) ?_); rotate_left; (focus (intro w hSw; (try dsimp only at hSw); go_simp; (try with_reducible rfl); done)); (try simp only [Act.put, List.setIfInBounds_toArray, List.set_cons_zero, List.set_cons_succ])
      (refine takeH (i := 7) (v := ?_) (by decide +kernel) (by decide +kernel) (by kernel_rfl) (by rfl) (by exact fun _ _ _ h => h) (by rfl) ?_ (by assumption) ?_); rotate_left; (focus (intro w hSw; (try dsimp only at hSw); go_simp; (try with_reducible rfl); done)); (try simp only [Act.put, List.setIfInBounds_toArray, List.set_cons_zero, List.set_cons_succ])
      (refine takeH (i := 8) (v := ?_) (by decide +kernel) (by decide +kernel) (by kernel_rfl) (by rfl) (by exact fun _ _ _ h => h) (by rfl) ?_ (by assumption) ?_); rotate_left; (focus (intro w hSw; (try dsimp only at hSw); go_simp; (try with_reducible rfl); done)); (try simp only [Act.put, List.setIfInBounds_toArray, List.set_cons_zero, List.set_cons_succ])
      (refine takeH (i := 9) (v := ?_) (by decide +kernel) (by decide +kernel) (by kernel_rfl) (by rfl) (by exact fun _ _ _ h => h) (by rfl) ?_ (by assumption) ?_); rotate_left; (focus (intro w hSw; (try dsimp only at hSw); go_simp; (try with_reducible rfl); done)); (try simp only [Act.put, List.setIfInBounds_toArray, List.set_cons_zero, List.set_cons_succ])
      (refine takeH (i := 10) (v := ?_) (by decide +kernel) (by decide +kernel) (by kernel_rfl) (by rfl) (by exact fun _ _ _ h => h) (by rfl) ?_ (by assumption) ?_); rotate_left; (focus (intro w hSw; (try dsimp only at hSw); go_simp; (try with_reducible rfl); done)); (try simp only [Act.put, List.setIfInBounds_toArray, List.set_cons_zero, List.set_cons_succ])
      (refine takeH (i := 11) (v := ?_) (by decide +kernel) (by decide +kernel) (by kernel_rfl) (by rfl) (by exact fun _ _ _ h => h) (by rfl) ?_ (by assumption) ?_); rotate_left; (focus (intro w hSw; (try dsimp only at hSw); go_simp; (try with_reducible rfl); done)); (try simp only [Act.put, List.setIfInBounds_toArray, List.set_cons_zero, List.set_cons_succ])
      (refine takeH (i := 12) (v := ?_) (by decide +kernel) (by decide +kernel) (by kernel_rfl) (by rfl) (by exact fun _ _ _ h => h) (by rfl) ?_ (by assumption) ?_); rotate_left; (focus (intro w hSw; (try dsimp only at hSw); go_simp; (try with_reducible rfl); done)); (try simp only [Act.put, List.setIfInBounds_toArray, List.set_cons_zero, List.set_cons_succ])
      (refine takeH (i := 13) (v := ?_) (by decide +kernel) (by decide +kernel) (by kernel_rfl) (by rfl) (by exact fun _ _ _ h => h) (by rfl) ?_ (by assumption) ?_); rotate_left; (focus (intro w hSw; (try dsimp only at hSw); go_simp; (try with_reducible rfl); done)); (try simp only [Act.put, List.setIfInBounds_toArray, List.set_cons_zero, List.set_cons_succ])
      (refine takeH (i := 14) (v := ?_) (by decide +kernel) (by decide +kernel) (by kernel_rfl) (by rfl) (by exact fun _ _ _ h => h) (by rfl) ?_ (by assumption) ?_); rotate_left; (focus (intro w hSw; (try dsimp only at hSw); go_simp; (try with_reducible rfl); done)); (try simp only [Act.put, List.setIfInBounds_toArray, List.set_cons_zero, List.set_cons_succ])
      (refine takeH (i := 15) (v := ?_) (by decide +kernel) (by decide +kernel) (by kernel_rfl) (by rfl) (by exact fun _ _ _ h => h) (by rfl) ?_ (by assumption) ?_); rotate_left; (focus (intro w hSw; (try dsimp only at hSw); go_simp; (try with_reducible rfl); done)); (try simp only [Act.put, List.setIfInBounds_toArray, List.set_cons_zero, List.set_cons_succ])
      (refine takeH (i := 16) (v := ?_) (by decide +kernel) (by decide +kernel) (by kernel_rfl) (by rfl) (by exact fun _ _ _ h => h) (by rfl) ?_ (by assumption) ?_); rotate_left; (focus (intro w hSw; (try dsimp only at hSw); go_simp; (try with_reducible rfl); done)); (try simp only [Act.put, List.setIfInBounds_toArray, List.set_cons_zero, List.set_cons_succ])
      (refine takeH (i := 17) (v := ?_) (by decide +kernel) (by decide +kernel) (by kernel_rfl) (by rfl) (by exact fun _ _ _ h => h) (by rfl) ?_ (by assumption) ?_); rotate_left; (focus (intro w hSw; (try dsimp only at hSw); go_simp; (try with_reducible rfl); done)); (try simp only [Act.put, List.setIfInBounds_toArray, List.set_cons_zero, List.set_cons_succ])
      ((refine skipH (i := 18) (by decide +kernel) (by decide +kernel) (by kernel_rfl) (by rfl) (by exact fun _ _ _ h => h) (by rfl) (by assumption) ?_); (try simp only [Act.put, List.setIfInBounds_toArray, List.set_cons_zero, List.set_cons_succ]))
      ((refine skipH (i := 19) (by decide +kernel) (by decide +kernel) (by kernel_rfl) (by rfl) (by exact fun _ _ _ h => h) (by rfl) (by assumption) ?_); (try simp only [Act.put, List.setIfInBounds_toArray, List.set_cons_zero, List.set_cons_succ]))
      ((refine skipH (i := 20) (by decide +kernel) (by decide +kernel) (by kernel_rfl) (by rfl) (by exact fun _ _ _ h => h) (by rfl) (by assumption) ?_); (try simp only [Act.put, List.setIfInBounds_toArray, List.set_cons_zero, List.set_cons_succ]))
      ((refine skipH (i := 21) (by decide +kernel) (by decide +kernel) (by kernel_rfl) (by rfl) (by exact fun _ _ _ h => h) (by rfl) (by assumption) ?_); (try simp only [Act.put, List.setIfInBounds_toArray, List.set_cons_zero, List.set_cons_succ]))
      ((refine skipH (i := 22) (by decide +kernel) (by decide +kernel) (by kernel_rfl) (by rfl) (by exact fun _ _ _ h => h) (by rfl) (by assumption) ?_); (try simp only [Act.put, List.setIfInBounds_toArray, List.set_cons_zero, List.set_cons_succ]))
      (refine takeH (i := 23) (v := ?_) (by decide +kernel) (by decide +kernel) (by kernel_rfl) (by rfl) (by exact fun _ _ _ h => h) (by rfl) ?_ (by assumption) ?_); rotate_left; (focus (intro w hSw; (try dsimp only at hSw); go_simp; (try with_reducible rfl); done)); (try simp only [Act.put, List.setIfInBounds_toArray, List.set_cons_zero, List.set_cons_succ])
      (refine takeH (i := 24) (v := ?_) (by decide +kernel) (by decide +kernel) (by kernel_rfl) (by rfl) (by exact fun _ _ _ h => h) (by rfl) ?_ (by assumption) ?_); rotate_left; (focus (intro w hSw; (try dsimp only at hSw); go_simp; (try with_reducible rfl); done)); (try simp only [Act.put, List.setIfInBounds_toArray, List.set_cons_zero, List.set_cons_succ])
      refine wpAnyH_done (by decide +kernel) ?_ _
      have F4 := HF2.out.step HB4.out
      have A4 := HOU.out.below HB4.out
      obtain ⟨bx, bf⟩ := F4.at 0 rfl
      obtain ⟨x0, x1, x2⟩ := (⟨bx 0 _ rfl, bx 1 _ rfl, bx 2 _ rfl⟩ : _ ∧ _ ∧ _)
      obtain ⟨d0, d1, d2⟩ := (⟨F4.at 1 rfl 0 _ rfl, F4.at 1 rfl 1 _ rfl, F4.at 1 rfl 2 _ rfl⟩ : _ ∧ _ ∧ _)
      have zD : w.heap.size + 1 < w4.heap.size := F4.le 0 rfl
      have zE : w.heap.size < w4.heap.size := F4.le 1 rfl
      have pcell := (HR0.out _ F4.below).2.2
      have k0 := A4.sn.c0
      have k1 := A4.sn.c1
      have k2 := A4.c2
      have kf := A4.fz
      simp only [Nat.zero_add] at k0 k1
      have n1 := A4.sn.n1
      have n2 := A4.sn.n2
      have n3 := A4.sn.n3
      obtain ⟨n1', n2', n3'⟩ : ¬ sg = pg ∧ ¬ B = pg ∧ ¬ B = sg := ⟨fun e => n1 e.symm, fun e => n2 e.symm, fun e => n3 e.symm⟩
      have nbB := A4.sn.nb0
      have nbp := (A4.sn.op.lt pg rfl).1
      have nbs := (A4.sn.os.lt sg rfl).1
      obtain ⟨q1, q2, q3, q4, q5, q6⟩ : ¬ w.heap.size = B ∧ ¬ w.heap.size = pg ∧ ¬ w.heap.size = sg ∧ ¬ w.heap.size + 1 = B ∧ ¬ w.heap.size + 1 = pg ∧ ¬ w.heap.size + 1 = sg := by omega
      obtain ⟨q7, q8, q9⟩ : ¬ pb = B ∧ ¬ pb = pg ∧ ¬ pb = sg := by omega
      have HF := Lib.hid F4
      have HA := Lib.hid A4
      clear F4 A4 bx HF2 HOU HSK B0 HB4 hb4 hHeld HR0 HCW
      have ep := (HA.out.sn.op.cellAt x (by simp <;> omega)).trans (by simp [HX.out] : _ = some (.int .i64 v))
      have fp := HA.out.sn.op.frozenAt x
      have B1 := HF.out.below
      go_wp2
      go_quiet (fail)
      go_wp2
      refine bodyPost_ret (v := .tuple #[P.val ⟨pits, stores, pn⟩ (some ⟨pg, 0, none⟩) uc (some ⟨sg, 0, none⟩) vc, .int .i64 0, .bool false]) (by simp [results, Try.results57, go_sem, x0, x1, x2, bf, zD, P.val, P.cells]) rfl ?_
      refine ⟨?_, .inl ⟨HS.out, _, ⟨_, _, _, _⟩, _, rfl⟩⟩
      repeat (first | (with_reducible exact B1) | ((with_reducible refine Below.setCell ?_ ?_ _); rotate_left; (simp <;> omega)) | (with_reducible refine Below.drew ?_) | (with_reducible exact Below.trans B1 (below_draws _ _ _)))
  · have HS := Lib.hid hST
    clear hST k2 hc13
    go_enter Try.func57, Try.ntmps57
    go_wp2_with fail
    refine HOW.out.mono ?_
    rintro e w1 ⟨ua, uc, va, vc, rfl, ho, hb1⟩
    try simp only [World.size_alloc] at ho
    obtain ⟨pg, rfl, hp1, hp2⟩ := own_lt_n ho.pits HLP.out.1
    obtain ⟨sg, rfl, hs1, hs2⟩ := own_lt_n ho.stores HLP.out.2.1
    have zA : w.heap.size < w1.heap.size := (F0.step hb1).le 1 rfl
    have zB : w.heap.size + 1 < w1.heap.size := (F0.step hb1).le 0 rfl
    have F2 := (F0.step hb1).step (below_alloc1 w1 (.cells #[.slice (some ⟨pg, 0, none⟩) pits.length uc, .slice (some ⟨sg, 0, none⟩) stores.length vc, .int .i64 pn] 30))
    have HO2 := OuP.start (base := w.heap.size + 1 + 1) ho (Nat.le_refl _) zB 30
    obtain ⟨B, hB⟩ : ∃ B, B = w1.heap.size := ⟨_, rfl⟩
    obtain ⟨W2, hW2⟩ : ∃ W, W = (w1.alloc (.cells #[.slice (some ⟨pg, 0, none⟩) pits.length uc, .slice (some ⟨sg, 0, none⟩) stores.length vc, .int .i64 pn] 30)) := ⟨_, rfl⟩
    simp only at HO2
    rw [← hB, ← hW2] at HO2
    rw [← hW2] at F2
    have HF2 := Lib.hid F2
    have HOU := Lib.hid HO2
    have zC : w.heap.size < W2.heap.size := F2.le 1 rfl
    have HSK : Hid (∀ W, Below W2.heap.size W2 W → (W.cell? ⟨w.heap.size, 0, none⟩ = some (.int .i64 4) ∧ W.cell? ⟨w.heap.size, 1, none⟩ = some (.int .i64 x) ∧ W.cell? ⟨w.heap.size, 2, none⟩ = some (.int .i64 c) ∧ W.cell? ⟨rb, ro, none⟩ = some (.int .i64 r.pits) ∧ W.cell? ⟨rb, ro + 2, none⟩ = some (.bool r.stores))) := fun W hW => ⟨((bcell hW).1 _ _ zC).trans (HF2.out.at 1 rfl 0 _ rfl), ((bcell hW).1 _ _ zC).trans (HF2.out.at 1 rfl 1 _ rfl), ((bcell hW).1 _ _ zC).trans (HF2.out.at 1 rfl 2 _ rfl), (HR0.out _ (HF2.out.step hW).below).1, (HR0.out _ (HF2.out.step hW).below).2.1⟩
    have B0 : Hid (Below W2.heap.size W2 W2.drew) := (Below.refl _ _).drew
    clear ho hb1 F0 F2 HO2 hp1 hp2 hs1 hs2 zA zB HOW
    go_wp2_with fail
    try rw [← hW2]
    try simp only [← hB]
    clear hW2 hB
    refine heldH (S := fun W => W.cell? ⟨w.heap.size, 0, none⟩ = some (.int .i64 4) ∧ W.cell? ⟨w.heap.size, 1, none⟩ = some (.int .i64 x) ∧ W.cell? ⟨w.heap.size, 2, none⟩ = some (.int .i64 c) ∧ W.cell? ⟨rb, ro, none⟩ = some (.int .i64 r.pits) ∧ W.cell? ⟨rb, ro + 2, none⟩ = some (.bool r.stores)) (n := 25) (listed := #[false, false, false, false, false, false, false, false, false, false, false, false, false, false, false, false, false, false, false, false, false, false, false, false, false]) (by kernel_rfl) (by rfl) (by rfl) ?_ (fun hHeld => ?_)
    (focus ((try dsimp only); (first | done | (((refine HSK.out _ ?_; first | (with_reducible exact HB4.out) | exact B0.out)); done))))
    (refine takeH (i := 0) (v := ?_) (by decide +kernel) (by decide +kernel) (by kernel_rfl) (by rfl) (by exact fun _ _ _ h => h) (by rfl) ?_ (by assumption) ?_); rotate_left; (focus (intro w hSw; (try dsimp only at hSw); go_simp; (try with_reducible rfl); done)); (try simp only [Act.put, List.setIfInBounds_toArray, List.set_cons_zero, List.set_cons_succ])
    refine nextH (i := 1) (by decide +kernel) (by rfl) (by rfl) (fun K hK => ?_)
    go_simp
    ((go_at_call 106; (refine (HCW.out _).mono ?_); (rintro e w4 ⟨rfl, hb4⟩); (have HB4 := Lib.hid (below_next B0.out hb4))))
    refine hK.out _ _ ?_ (fun hHeld' => ?_)
    (focus ((try dsimp only); (first | done | (((refine HSK.out _ ?_; first | (with_reducible exact HB4.out) | exact B0.out)); done))))
    clear hK K hHeld
    have hHeld := hHeld'
    clear hHeld'
    (try simp only [Act.put, List.setIfInBounds_toArray, List.set_cons_zero, List.set_cons_succ])
    (refine takeH (i := 2) (v := ?_) (by decide +kernel) (by decide +kernel) (by kernel_rfl) (by rfl) (by exact fun _ _ _ h => h) (by rfl) ?_ (by assumption) ?_); rotate_left; (focus (intro w hSw; (try dsimp only at hSw); go_simp; (try with_reducible rfl); done)); (try simp only [Act.put, List.setIfInBounds_toArray, List.set_cons_zero, List.set_cons_succ])
    (refine takeH (i := 3) (v := ?_) (by decide +kernel) (by decide +kernel) (by kernel_rfl) (by rfl) (by exact fun _ _ _ h => h) (by rfl) ?_ (by assumption) ?_); rotate_left; (focus (intro w hSw; (try dsimp only at hSw); go_simp; (try with_reducible rfl); done)); (try simp only [Act.put, List.setIfInBounds_toArray, List.set_cons_zero, List.set_cons_succ])
    (refine takeH (i := 4) (v := ?_) (by decide +kernel) (by decide +kernel) (by kernel_rfl) (by rfl) (by exact fun _ _ _ h => h) (by rfl) ?_ (by assumption) ?_); rotate_left; (focus (intro w hSw; (try dsimp only at hSw); go_simp; (try with_reducible rfl); done)); (try simp only [Act.put, List.setIfInBounds_toArray, List.set_cons_zero, List.set_cons_succ])
    (refine takeH (i := 5) (v := ?_) (by decide +kernel) (by decide +kernel) (by kernel_rfl) (by rfl) (by exact fun _ _ _ h => h) (by rfl) ?_ (by assumption) ?_); rotate_left; (focus (intro w hSw; (try dsimp only at hSw); go_simp; (try with_reducible rfl); done)); (try simp only [Act.put, List.setIfInBounds_toArray, List.set_cons_zero, List.set_cons_succ])
    (refine takeH (i := 6) (v := ?_) (by decide +kernel) (by decide +kernel) (by kernel_rfl) (by rfl) (by exact fun _ _ _ h => h) (by rfl) ?_ (by assumption) ?_); rotate_left; (focus (intro w hSw; (try dsimp only at hSw); go_simp; (try with_reducible rfl); done)); (try simp only [Act.put, List.setIfInBounds_toArray, List.set_cons_zero, List.set_cons_succ])
    (refine takeH (i := 7) (v := ?_) (by decide +kernel) (by decide +kernel) (by kernel_rfl) (by rfl) (by exact fun _ _ _ h => h) (by rfl) ?_ (by assumption) ?_); rotate_left; (focus (intro w hSw; (try dsimp only at hSw); go_simp; (try with_reducible rfl); done)); (try simp only [Act.put, List.setIfInBounds_toArray, List.set_cons_zero, List.set_cons_succ])
    (refine takeH (i := 8) (v := ?_) (by decide +kernel) (by decide +kernel) (by kernel_rfl) (by rfl) (by exact fun _ _ _ h => h) (by rfl) ?_ (by assumption) ?_); rotate_left; (focus (intro w hSw; (try dsimp only at hSw); go_simp; (try with_reducible rfl); done)); (try simp only [Act.put, List.setIfInBounds_toArray, List.set_cons_zero, List.set_cons_succ])
    (refine takeH (i := 9) (v := ?_) (by decide +kernel) (by decide +kernel) (by kernel_rfl) (by rfl) (by exact fun _ _ _ h => h) (by rfl) ?_ (by assumption) ?_); rotate_left; (focus (intro w hSw; (try dsimp only at hSw); go_simp; (try with_reducible rfl); done)); (try simp only [Act.put, List.setIfInBounds_toArray, List.set_cons_zero, List.set_cons_succ])
    (refine takeH (i := 10) (v := ?_) (by decide +kernel) (by decide +kernel) (by kernel_rfl) (by rfl) (by exact fun _ _ _ h => h) (by rfl) ?_ (by assumption) ?_); rotate_left; (focus (intro w hSw; (try dsimp only at hSw); go_simp; (try with_reducible rfl); done)); (try simp only [Act.put, List.setIfInBounds_toArray, List.set_cons_zero, List.set_cons_succ])
    (refine takeH (i := 11) (v := ?_) (by decide +kernel) (by decide +kernel) (by kernel_rfl) (by rfl) (by exact fun _ _ _ h => h) (by rfl) ?_ (by assumption) ?_); rotate_left; (focus (intro w hSw; (try dsimp only at hSw); go_simp; (try with_reducible rfl); done)); (try simp only [Act.put, List.setIfInBounds_toArray, List.set_cons_zero, List.set_cons_succ])
    (refine takeH (i := 12) (v := ?_) (by decide +kernel) (by decide +kernel) (by kernel_rfl) (by rfl) (by exact fun _ _ _ h => h) (by rfl) ?_ (by assumption) ?_); rotate_left; (focus (intro w hSw; (try dsimp only at hSw); go_simp; (try with_reducible rfl); done)); (try simp only [Act.put, List.setIfInBounds_toArray, List.set_cons_zero, List.set_cons_succ])
    (refine takeH (i := 13) (v := ?_) (by decide +kernel) (by decide +kernel) (by kernel_rfl) (by rfl) (by exact fun _ _ _ h => h) (by rfl) ?_ (by assumption) ?_); rotate_left; (focus (intro w hSw; (try dsimp only at hSw); go_simp; (try with_reducible rfl); done)); (try simp only [Act.put, List.setIfInBounds_toArray, List.set_cons_zero, List.set_cons_succ])
    (refine takeH (i := 14) (v := ?_) (by decide +kernel) (by decide +kernel) (by kernel_rfl) (by rfl) (by exact fun _ _ _ h => h) (by rfl) ?_ (by assumption) ?_); rotate_left; (focus (intro w hSw; (try dsimp only at hSw); go_simp; (try with_reducible rfl); done)); (try simp only [Act.put, List.setIfInBounds_toArray, List.set_cons_zero, List.set_cons_succ])
    (refine takeH (i := 15) (v := ?_) (by decide +kernel) (by decide +kernel) (by kernel_rfl) (by rfl) (by exact fun _ _ _ h => h) (by rfl) ?_ (by assumption) ?_); rotate_left; (focus (intro w hSw; (try dsimp only at hSw); go_simp; (try with_reducible rfl); done)); (try simp only [Act.put, List.setIfInBounds_toArray, List.set_cons_zero, List.set_cons_succ])
    (refine takeH (i := 16) (v := ?_) (by decide +kernel) (by decide +kernel) (by kernel_rfl) (by rfl) (by exact fun _ _ _ h => h) (by rfl) ?_ (by assumption) ?_); rotate_left; (focus (intro w hSw; (try dsimp only at hSw); go_simp; (try with_reducible rfl); done)); (try simp only [Act.put, List.setIfInBounds_toArray, List.set_cons_zero, List.set_cons_succ])
    (refine takeH (i := 17) (v := ?_) (by decide +kernel) (by decide +kernel) (by kernel_rfl) (by rfl) (by exact fun _ _ _ h => h) (by rfl) ?_ (by assumption) ?_); rotate_left; (focus (intro w hSw; (try dsimp only at hSw); go_simp; (try with_reducible rfl); done)); (try simp only [Act.put, List.setIfInBounds_toArray, List.set_cons_zero, List.set_cons_succ])
    ((refine skipH (i := 18) (by decide +kernel) (by decide +kernel) (by kernel_rfl) (by rfl) (by exact fun _ _ _ h => h) (by rfl) (by assumption) ?_); (try simp only [Act.put, List.setIfInBounds_toArray, List.set_cons_zero, List.set_cons_succ]))
    ((refine skipH (i := 19) (by decide +kernel) (by decide +kernel) (by kernel_rfl) (by rfl) (by exact fun _ _ _ h => h) (by rfl) (by assumption) ?_); (try simp only [Act.put, List.setIfInBounds_toArray, List.set_cons_zero, List.set_cons_succ]))
    ((refine skipH (i := 20) (by decide +kernel) (by decide +kernel) (by kernel_rfl) (by rfl) (by exact fun _ _ _ h => h) (by rfl) (by assumption) ?_); (try simp only [Act.put, List.setIfInBounds_toArray, List.set_cons_zero, List.set_cons_succ]))
    ((refine skipH (i := 21) (by decide +kernel) (by decide +kernel) (by kernel_rfl) (by rfl) (by exact fun _ _ _ h => h) (by rfl) (by assumption) ?_); (try simp only [Act.put, List.setIfInBounds_toArray, List.set_cons_zero, List.set_cons_succ]))
    ((refine skipH (i := 22) (by decide +kernel) (by decide +kernel) (by kernel_rfl) (by rfl) (by exact fun _ _ _ h => h) (by rfl) (by assumption) ?_); (try simp only [Act.put, List.setIfInBounds_toArray, List.set_cons_zero, List.set_cons_succ]))
    (refine takeH (i := 23) (v := ?_) (by decide +kernel) (by decide +kernel) (by kernel_rfl) (by rfl) (by exact fun _ _ _ h => h) (by rfl) ?_ (by assumption) ?_); rotate_left; (focus (intro w hSw; (try dsimp only at hSw); go_simp; (try with_reducible rfl); done)); (try simp only [Act.put, List.setIfInBounds_toArray, List.set_cons_zero, List.set_cons_succ])
    (refine takeH (i := 24) (v := ?_) (by decide +kernel) (by decide +kernel) (by kernel_rfl) (by rfl) (by exact fun _ _ _ h => h) (by rfl) ?_ (by assumption) ?_); rotate_left; (focus (intro w hSw; (try dsimp only at hSw); go_simp; (try with_reducible rfl); done)); (try simp only [Act.put, List.setIfInBounds_toArray, List.set_cons_zero, List.set_cons_succ])
    refine wpAnyH_done (by decide +kernel) ?_ _
    have F4 := HF2.out.step HB4.out
    have A4 := HOU.out.below HB4.out
    obtain ⟨bx, bf⟩ := F4.at 0 rfl
    obtain ⟨x0, x1, x2⟩ := (⟨bx 0 _ rfl, bx 1 _ rfl, bx 2 _ rfl⟩ : _ ∧ _ ∧ _)
    obtain ⟨d0, d1, d2⟩ := (⟨F4.at 1 rfl 0 _ rfl, F4.at 1 rfl 1 _ rfl, F4.at 1 rfl 2 _ rfl⟩ : _ ∧ _ ∧ _)
    have zD : w.heap.size + 1 < w4.heap.size := F4.le 0 rfl
    have zE : w.heap.size < w4.heap.size := F4.le 1 rfl
    have pcell := (HR0.out _ F4.below).2.2
    have k0 := A4.sn.c0
    have k1 := A4.sn.c1
    have k2 := A4.c2
    have kf := A4.fz
    simp only [Nat.zero_add] at k0 k1
    have n1 := A4.sn.n1
    have n2 := A4.sn.n2
    have n3 := A4.sn.n3
    obtain ⟨n1', n2', n3'⟩ : ¬ sg = pg ∧ ¬ B = pg ∧ ¬ B = sg := ⟨fun e => n1 e.symm, fun e => n2 e.symm, fun e => n3 e.symm⟩
    have nbB := A4.sn.nb0
    have nbp := (A4.sn.op.lt pg rfl).1
    have nbs := (A4.sn.os.lt sg rfl).1
    obtain ⟨q1, q2, q3, q4, q5, q6⟩ : ¬ w.heap.size = B ∧ ¬ w.heap.size = pg ∧ ¬ w.heap.size = sg ∧ ¬ w.heap.size + 1 = B ∧ ¬ w.heap.size + 1 = pg ∧ ¬ w.heap.size + 1 = sg := by omega
    obtain ⟨q7, q8, q9⟩ : ¬ pb = B ∧ ¬ pb = pg ∧ ¬ pb = sg := by omega
    have HF := Lib.hid F4
    have HA := Lib.hid A4
    clear F4 A4 bx HF2 HOU HSK B0 HB4 hb4 hHeld HR0 HCW
    have HO2 := Lib.hid (HA.out)
    have B1 := HF.out.below
    go_wp2
    refine bodyPost_ret (v := .tuple #[P.val ⟨pits, stores, pn⟩ (some ⟨pg, 0, none⟩) uc (some ⟨sg, 0, none⟩) vc, .int .i64 0, .bool true]) (by simp [results, Try.results57, go_sem, x0, x1, x2, bf, zD, P.val, P.cells]) rfl ?_
    refine ⟨?_, .inr ⟨_, ⟨_, _, _, _⟩, _, HS.out, rfl, ?_⟩⟩
    · repeat (first | (with_reducible exact B1) | ((with_reducible refine Below.setCell ?_ ?_ _); rotate_left; (simp <;> omega)) | (with_reducible refine Below.drew ?_) | (with_reducible exact Below.trans B1 (below_draws _ _ _)))
    have k9 := HO2.out.own (low := w.heap.size + 1 + 1) (Nat.le_refl _)
    refine ⟨?_, ?_, k9.apart⟩
    · have k0 := k9.pits
      dsimp only at k0 ⊢
      (try simp only [List.length_set] at k0)
      (try simp only [List.length_set])
      refine ownsRow_le (base := w.heap.size + 1 + 1) ?_ (by omega)
      repeat (first | (with_reducible exact k0) | (with_reducible refine World.ownsRow.drew ?_) | ((with_reducible refine ownsRow_setCell_below ?_ ?_ _); rotate_left; (simp <;> omega)))
    · have k0 := k9.stores
      dsimp only at k0 ⊢
      (try simp only [List.length_set] at k0)
      (try simp only [List.length_set])
      refine ownsRow_le (base := w.heap.size + 1 + 1) ?_ (by omega)
      repeat (first | (with_reducible exact k0) | (with_reducible refine World.ownsRow.drew ?_) | ((with_reducible refine ownsRow_setCell_below ?_ ?_ _); rotate_left; (simp <;> omega)))
  · have HS := Lib.hid hST
    clear hST k2 hc13
    go_enter Try.func57, Try.ntmps57
    go_wp2_with fail
    refine HOW.out.mono ?_
    rintro e w1 ⟨ua, uc, va, vc, rfl, ho, hb1⟩
    try simp only [World.size_alloc] at ho
    obtain ⟨pg, rfl, hp1, hp2⟩ := own_lt_n ho.pits HLP.out.1
    obtain ⟨sg, rfl, hs1, hs2⟩ := own_lt_n ho.stores HLP.out.2.1
    have zA : w.heap.size < w1.heap.size := (F0.step hb1).le 1 rfl
    have zB : w.heap.size + 1 < w1.heap.size := (F0.step hb1).le 0 rfl
    have F2 := (F0.step hb1).step (below_alloc1 w1 (.cells #[.slice (some ⟨pg, 0, none⟩) pits.length uc, .slice (some ⟨sg, 0, none⟩) stores.length vc, .int .i64 pn] 30))
    have HO2 := OuP.start (base := w.heap.size + 1 + 1) ho (Nat.le_refl _) zB 30
    obtain ⟨B, hB⟩ : ∃ B, B = w1.heap.size := ⟨_, rfl⟩
    obtain ⟨W2, hW2⟩ : ∃ W, W = (w1.alloc (.cells #[.slice (some ⟨pg, 0, none⟩) pits.length uc, .slice (some ⟨sg, 0, none⟩) stores.length vc, .int .i64 pn] 30)) := ⟨_, rfl⟩
    simp only at HO2
    rw [← hB, ← hW2] at HO2
    rw [← hW2] at F2
    have HF2 := Lib.hid F2
    have HOU := Lib.hid HO2
    have zC : w.heap.size < W2.heap.size := F2.le 1 rfl
    have HSK : Hid (∀ W, Below W2.heap.size W2 W → (W.cell? ⟨w.heap.size, 0, none⟩ = some (.int .i64 5) ∧ W.cell? ⟨w.heap.size, 1, none⟩ = some (.int .i64 x) ∧ W.cell? ⟨w.heap.size, 2, none⟩ = some (.int .i64 c) ∧ W.cell? ⟨rb, ro, none⟩ = some (.int .i64 r.pits) ∧ W.cell? ⟨rb, ro + 2, none⟩ = some (.bool r.stores))) := fun W hW => ⟨((bcell hW).1 _ _ zC).trans (HF2.out.at 1 rfl 0 _ rfl), ((bcell hW).1 _ _ zC).trans (HF2.out.at 1 rfl 1 _ rfl), ((bcell hW).1 _ _ zC).trans (HF2.out.at 1 rfl 2 _ rfl), (HR0.out _ (HF2.out.step hW).below).1, (HR0.out _ (HF2.out.step hW).below).2.1⟩
    have B0 : Hid (Below W2.heap.size W2 W2.drew) := (Below.refl _ _).drew
    clear ho hb1 F0 F2 HO2 hp1 hp2 hs1 hs2 zA zB HOW
    go_wp2_with fail
    try rw [← hW2]
    try simp only [← hB]
    clear hW2 hB
    refine heldH (S := fun W => W.cell? ⟨w.heap.size, 0, none⟩ = some (.int .i64 5) ∧ W.cell? ⟨w.heap.size, 1, none⟩ = some (.int .i64 x) ∧ W.cell? ⟨w.heap.size, 2, none⟩ = some (.int .i64 c) ∧ W.cell? ⟨rb, ro, none⟩ = some (.int .i64 r.pits) ∧ W.cell? ⟨rb, ro + 2, none⟩ = some (.bool r.stores)) (n := 25) (listed := #[false, false, false, false, false, false, false, false, false, false, false, false, false, false, false, false, false, false, false, false, false, false, false, false, false]) (by kernel_rfl) (by rfl) (by rfl) ?_ (fun hHeld => ?_)
    (focus ((try dsimp only); (first | done | (((refine HSK.out _ ?_; first | (with_reducible exact HB4.out) | exact B0.out)); done))))
    (refine takeH (i := 0) (v := ?_) (by decide +kernel) (by decide +kernel) (by kernel_rfl) (by rfl) (by exact fun _ _ _ h => h) (by rfl) ?_ (by assumption) ?_); rotate_left; (focus (intro w hSw; (try dsimp only at hSw); go_simp; (try with_reducible rfl); done)); (try simp only [Act.put, List.setIfInBounds_toArray, List.set_cons_zero, List.set_cons_succ])
    refine nextH (i := 1) (by decide +kernel) (by rfl) (by rfl) (fun K hK => ?_)
    go_simp
    ((go_at_call 106; (refine (HCW.out _).mono ?_); (rintro e w4 ⟨rfl, hb4⟩); (have HB4 := Lib.hid (below_next B0.out hb4))))
    refine hK.out _ _ ?_ (fun hHeld' => ?_)
    (focus ((try dsimp only); (first | done | (((refine HSK.out _ ?_; first | (with_reducible exact HB4.out) | exact B0.out)); done))))
    clear hK K hHeld
    have hHeld := hHeld'
    clear hHeld'
    (try simp only [Act.put, List.setIfInBounds_toArray, List.set_cons_zero, List.set_cons_succ])
    (refine takeH (i := 2) (v := ?_) (by decide +kernel) (by decide +kernel) (by kernel_rfl) (by rfl) (by exact fun _ _ _ h => h) (by rfl) ?_ (by assumption) ?_); rotate_left; (focus (intro w hSw; (try dsimp only at hSw); go_simp; (try with_reducible rfl); done)); (try simp only [Act.put, List.setIfInBounds_toArray, List.set_cons_zero, List.set_cons_succ])
    (refine takeH (i := 3) (v := ?_) (by decide +kernel) (by decide +kernel) (by kernel_rfl) (by rfl) (by exact fun _ _ _ h => h) (by rfl) ?_ (by assumption) ?_); rotate_left; (focus (intro w hSw; (try dsimp only at hSw); go_simp; (try with_reducible rfl); done)); (try simp only [Act.put, List.setIfInBounds_toArray, List.set_cons_zero, List.set_cons_succ])
    (refine takeH (i := 4) (v := ?_) (by decide +kernel) (by decide +kernel) (by kernel_rfl) (by rfl) (by exact fun _ _ _ h => h) (by rfl) ?_ (by assumption) ?_); rotate_left; (focus (intro w hSw; (try dsimp only at hSw); go_simp; (try with_reducible rfl); done)); (try simp only [Act.put, List.setIfInBounds_toArray, List.set_cons_zero, List.set_cons_succ])
    (refine takeH (i := 5) (v := ?_) (by decide +kernel) (by decide +kernel) (by kernel_rfl) (by rfl) (by exact fun _ _ _ h => h) (by rfl) ?_ (by assumption) ?_); rotate_left; (focus (intro w hSw; (try dsimp only at hSw); go_simp; (try with_reducible rfl); done)); (try simp only [Act.put, List.setIfInBounds_toArray, List.set_cons_zero, List.set_cons_succ])
    (refine takeH (i := 6) (v := ?_) (by decide +kernel) (by decide +kernel) (by kernel_rfl) (by rfl) (by exact fun _ _ _ h => h) (by rfl) ?_ (by assumption) ?_); rotate_left; (focus (intro w hSw; (try dsimp only at hSw); go_simp; (try with_reducible rfl); done)); (try simp only [Act.put, List.setIfInBounds_toArray, List.set_cons_zero, List.set_cons_succ])
    (refine takeH (i := 7) (v := ?_) (by decide +kernel) (by decide +kernel) (by kernel_rfl) (by rfl) (by exact fun _ _ _ h => h) (by rfl) ?_ (by assumption) ?_); rotate_left; (focus (intro w hSw; (try dsimp only at hSw); go_simp; (try with_reducible rfl); done)); (try simp only [Act.put, List.setIfInBounds_toArray, List.set_cons_zero, List.set_cons_succ])
    (refine takeH (i := 8) (v := ?_) (by decide +kernel) (by decide +kernel) (by kernel_rfl) (by rfl) (by exact fun _ _ _ h => h) (by rfl) ?_ (by assumption) ?_); rotate_left; (focus (intro w hSw; (try dsimp only at hSw); go_simp; (try with_reducible rfl); done)); (try simp only [Act.put, List.setIfInBounds_toArray, List.set_cons_zero, List.set_cons_succ])
    (refine takeH (i := 9) (v := ?_) (by decide +kernel) (by decide +kernel) (by kernel_rfl) (by rfl) (by exact fun _ _ _ h => h) (by rfl) ?_ (by assumption) ?_); rotate_left; (focus (intro w hSw; (try dsimp only at hSw); go_simp; (try with_reducible rfl); done)); (try simp only [Act.put, List.setIfInBounds_toArray, List.set_cons_zero, List.set_cons_succ])
    (refine takeH (i := 10) (v := ?_) (by decide +kernel) (by decide +kernel) (by kernel_rfl) (by rfl) (by exact fun _ _ _ h => h) (by rfl) ?_ (by assumption) ?_); rotate_left; (focus (intro w hSw; (try dsimp only at hSw); go_simp; (try with_reducible rfl); done)); (try simp only [Act.put, List.setIfInBounds_toArray, List.set_cons_zero, List.set_cons_succ])
    (refine takeH (i := 11) (v := ?_) (by decide +kernel) (by decide +kernel) (by kernel_rfl) (by rfl) (by exact fun _ _ _ h => h) (by rfl) ?_ (by assumption) ?_); rotate_left; (focus (intro w hSw; (try dsimp only at hSw); go_simp; (try with_reducible rfl); done)); (try simp only [Act.put, List.setIfInBounds_toArray, List.set_cons_zero, List.set_cons_succ])
    (refine takeH (i := 12) (v := ?_) (by decide +kernel) (by decide +kernel) (by kernel_rfl) (by rfl) (by exact fun _ _ _ h => h) (by rfl) ?_ (by assumption) ?_); rotate_left; (focus (intro w hSw; (try dsimp only at hSw); go_simp; (try with_reducible rfl); done)); (try simp only [Act.put, List.setIfInBounds_toArray, List.set_cons_zero, List.set_cons_succ])
    (refine takeH (i := 13) (v := ?_) (by decide +kernel) (by decide +kernel) (by kernel_rfl) (by rfl) (by exact fun _ _ _ h => h) (by rfl) ?_ (by assumption) ?_); rotate_left; (focus (intro w hSw; (try dsimp only at hSw); go_simp; (try with_reducible rfl); done)); (try simp only [Act.put, List.setIfInBounds_toArray, List.set_cons_zero, List.set_cons_succ])
    (refine takeH (i := 14) (v := ?_) (by decide +kernel) (by decide +kernel) (by kernel_rfl) (by rfl) (by exact fun _ _ _ h => h) (by rfl) ?_ (by assumption) ?_); rotate_left; (focus (intro w hSw; (try dsimp only at hSw); go_simp; (try with_reducible rfl); done)); (try simp only [Act.put, List.setIfInBounds_toArray, List.set_cons_zero, List.set_cons_succ])
    (refine takeH (i := 15) (v := ?_) (by decide +kernel) (by decide +kernel) (by kernel_rfl) (by rfl) (by exact fun _ _ _ h => h) (by rfl) ?_ (by assumption) ?_); rotate_left; (focus (intro w hSw; (try dsimp only at hSw); go_simp; (try with_reducible rfl); done)); (try simp only [Act.put, List.setIfInBounds_toArray, List.set_cons_zero, List.set_cons_succ])
    (refine takeH (i := 16) (v := ?_) (by decide +kernel) (by decide +kernel) (by kernel_rfl) (by rfl) (by exact fun _ _ _ h => h) (by rfl) ?_ (by assumption) ?_); rotate_left; (focus (intro w hSw; (try dsimp only at hSw); go_simp; (try with_reducible rfl); done)); (try simp only [Act.put, List.setIfInBounds_toArray, List.set_cons_zero, List.set_cons_succ])
    (refine takeH (i := 17) (v := ?_) (by decide +kernel) (by decide +kernel) (by kernel_rfl) (by rfl) (by exact fun _ _ _ h => h) (by rfl) ?_ (by assumption) ?_); rotate_left; (focus (intro w hSw; (try dsimp only at hSw); go_simp; (try with_reducible rfl); done)); (try simp only [Act.put, List.setIfInBounds_toArray, List.set_cons_zero, List.set_cons_succ])
    ((refine skipH (i := 18) (by decide +kernel) (by decide +kernel) (by kernel_rfl) (by rfl) (by exact fun _ _ _ h => h) (by rfl) (by assumption) ?_); (try simp only [Act.put, List.setIfInBounds_toArray, List.set_cons_zero, List.set_cons_succ]))
    ((refine skipH (i := 19) (by decide +kernel) (by decide +kernel) (by kernel_rfl) (by rfl) (by exact fun _ _ _ h => h) (by rfl) (by assumption) ?_); (try simp only [Act.put, List.setIfInBounds_toArray, List.set_cons_zero, List.set_cons_succ]))
    ((refine skipH (i := 20) (by decide +kernel) (by decide +kernel) (by kernel_rfl) (by rfl) (by exact fun _ _ _ h => h) (by rfl) (by assumption) ?_); (try simp only [Act.put, List.setIfInBounds_toArray, List.set_cons_zero, List.set_cons_succ]))
    ((refine skipH (i := 21) (by decide +kernel) (by decide +kernel) (by kernel_rfl) (by rfl) (by exact fun _ _ _ h => h) (by rfl) (by assumption) ?_); (try simp only [Act.put, List.setIfInBounds_toArray, List.set_cons_zero, List.set_cons_succ]))
    ((refine skipH (i := 22) (by decide +kernel) (by decide +kernel) (by kernel_rfl) (by rfl) (by exact fun _ _ _ h => h) (by rfl) (by assumption) ?_); (try simp only [Act.put, List.setIfInBounds_toArray, List.set_cons_zero, List.set_cons_succ]))
    (refine takeH (i := 23) (v := ?_) (by decide +kernel) (by decide +kernel) (by kernel_rfl) (by rfl) (by exact fun _ _ _ h => h) (by rfl) ?_ (by assumption) ?_); rotate_left; (focus (intro w hSw; (try dsimp only at hSw); go_simp; (try with_reducible rfl); done)); (try simp only [Act.put, List.setIfInBounds_toArray, List.set_cons_zero, List.set_cons_succ])
    (refine takeH (i := 24) (v := ?_) (by decide +kernel) (by decide +kernel) (by kernel_rfl) (by rfl) (by exact fun _ _ _ h => h) (by rfl) ?_ (by assumption) ?_); rotate_left; (focus (intro w hSw; (try dsimp only at hSw); go_simp; (try with_reducible rfl); done)); (try simp only [Act.put, List.setIfInBounds_toArray, List.set_cons_zero, List.set_cons_succ])
    refine wpAnyH_done (by decide +kernel) ?_ _
    have F4 := HF2.out.step HB4.out
    have A4 := HOU.out.below HB4.out
    obtain ⟨bx, bf⟩ := F4.at 0 rfl
    obtain ⟨x0, x1, x2⟩ := (⟨bx 0 _ rfl, bx 1 _ rfl, bx 2 _ rfl⟩ : _ ∧ _ ∧ _)
    obtain ⟨d0, d1, d2⟩ := (⟨F4.at 1 rfl 0 _ rfl, F4.at 1 rfl 1 _ rfl, F4.at 1 rfl 2 _ rfl⟩ : _ ∧ _ ∧ _)
    have zD : w.heap.size + 1 < w4.heap.size := F4.le 0 rfl
    have zE : w.heap.size < w4.heap.size := F4.le 1 rfl
    have pcell := (HR0.out _ F4.below).2.2
    have k0 := A4.sn.c0
    have k1 := A4.sn.c1
    have k2 := A4.c2
    have kf := A4.fz
    simp only [Nat.zero_add] at k0 k1
    have n1 := A4.sn.n1
    have n2 := A4.sn.n2
    have n3 := A4.sn.n3
    obtain ⟨n1', n2', n3'⟩ : ¬ sg = pg ∧ ¬ B = pg ∧ ¬ B = sg := ⟨fun e => n1 e.symm, fun e => n2 e.symm, fun e => n3 e.symm⟩
    have nbB := A4.sn.nb0
    have nbp := (A4.sn.op.lt pg rfl).1
    have nbs := (A4.sn.os.lt sg rfl).1
    obtain ⟨q1, q2, q3, q4, q5, q6⟩ : ¬ w.heap.size = B ∧ ¬ w.heap.size = pg ∧ ¬ w.heap.size = sg ∧ ¬ w.heap.size + 1 = B ∧ ¬ w.heap.size + 1 = pg ∧ ¬ w.heap.size + 1 = sg := by omega
    obtain ⟨q7, q8, q9⟩ : ¬ pb = B ∧ ¬ pb = pg ∧ ¬ pb = sg := by omega
    have HF := Lib.hid F4
    have HA := Lib.hid A4
    clear F4 A4 bx HF2 HOU HSK B0 HB4 hb4 hHeld HR0 HCW
    have HO2 := Lib.hid (HA.out)
    have B1 := HF.out.below
    go_wp2
    refine bodyPost_ret (v := .tuple #[P.val ⟨pits, stores, pn⟩ (some ⟨pg, 0, none⟩) uc (some ⟨sg, 0, none⟩) vc, .int .i64 0, .bool true]) (by simp [results, Try.results57, go_sem, x0, x1, x2, bf, zD, P.val, P.cells]) rfl ?_
    refine ⟨?_, .inr ⟨_, ⟨_, _, _, _⟩, _, HS.out, rfl, ?_⟩⟩
    · repeat (first | (with_reducible exact B1) | ((with_reducible refine Below.setCell ?_ ?_ _); rotate_left; (simp <;> omega)) | (with_reducible refine Below.drew ?_) | (with_reducible exact Below.trans B1 (below_draws _ _ _)))
    have k9 := HO2.out.own (low := w.heap.size + 1 + 1) (Nat.le_refl _)
    refine ⟨?_, ?_, k9.apart⟩
    · have k0 := k9.pits
      dsimp only at k0 ⊢
      (try simp only [List.length_set] at k0)
      (try simp only [List.length_set])
      refine ownsRow_le (base := w.heap.size + 1 + 1) ?_ (by omega)
      repeat (first | (with_reducible exact k0) | (with_reducible refine World.ownsRow.drew ?_) | ((with_reducible refine ownsRow_setCell_below ?_ ?_ _); rotate_left; (simp <;> omega)))
    · have k0 := k9.stores
      dsimp only at k0 ⊢
      (try simp only [List.length_set] at k0)
      (try simp only [List.length_set])
      refine ownsRow_le (base := w.heap.size + 1 + 1) ?_ (by omega)
      repeat (first | (with_reducible exact k0) | (with_reducible refine World.ownsRow.drew ?_) | ((with_reducible refine ownsRow_setCell_below ?_ ?_ _); rotate_left; (simp <;> omega)))
  · have HS := Lib.hid hST
    clear hST k2 hc13
    have hwp : IntKind.i64.wrap (1 - (pn : Int)) = 1 - pn := IntWalk.i64_in _ (by omega)
    go_enter Try.func57, Try.ntmps57
    go_wp2_with fail
    refine HOW.out.mono ?_
    rintro e w1 ⟨ua, uc, va, vc, rfl, ho, hb1⟩
    try simp only [World.size_alloc] at ho
    obtain ⟨pg, rfl, hp1, hp2⟩ := own_lt_n ho.pits HLP.out.1
    obtain ⟨sg, rfl, hs1, hs2⟩ := own_lt_n ho.stores HLP.out.2.1
    have zA : w.heap.size < w1.heap.size := (F0.step hb1).le 1 rfl
    have zB : w.heap.size + 1 < w1.heap.size := (F0.step hb1).le 0 rfl
    have F2 := (F0.step hb1).step (below_alloc1 w1 (.cells #[.slice (some ⟨pg, 0, none⟩) pits.length uc, .slice (some ⟨sg, 0, none⟩) stores.length vc, .int .i64 pn] 30))
    have HO2 := OuP.start (base := w.heap.size + 1 + 1) ho (Nat.le_refl _) zB 30
    obtain ⟨B, hB⟩ : ∃ B, B = w1.heap.size := ⟨_, rfl⟩
    obtain ⟨W2, hW2⟩ : ∃ W, W = (w1.alloc (.cells #[.slice (some ⟨pg, 0, none⟩) pits.length uc, .slice (some ⟨sg, 0, none⟩) stores.length vc, .int .i64 pn] 30)) := ⟨_, rfl⟩
    simp only at HO2
    rw [← hB, ← hW2] at HO2
    rw [← hW2] at F2
    have HF2 := Lib.hid F2
    have HOU := Lib.hid HO2
    have zC : w.heap.size < W2.heap.size := F2.le 1 rfl
    have HSK : Hid (∀ W, Below W2.heap.size W2 W → (W.cell? ⟨w.heap.size, 0, none⟩ = some (.int .i64 6) ∧ W.cell? ⟨w.heap.size, 1, none⟩ = some (.int .i64 x) ∧ W.cell? ⟨w.heap.size, 2, none⟩ = some (.int .i64 c) ∧ W.cell? ⟨rb, ro, none⟩ = some (.int .i64 r.pits) ∧ W.cell? ⟨rb, ro + 2, none⟩ = some (.bool r.stores))) := fun W hW => ⟨((bcell hW).1 _ _ zC).trans (HF2.out.at 1 rfl 0 _ rfl), ((bcell hW).1 _ _ zC).trans (HF2.out.at 1 rfl 1 _ rfl), ((bcell hW).1 _ _ zC).trans (HF2.out.at 1 rfl 2 _ rfl), (HR0.out _ (HF2.out.step hW).below).1, (HR0.out _ (HF2.out.step hW).below).2.1⟩
    have B0 : Hid (Below W2.heap.size W2 W2.drew) := (Below.refl _ _).drew
    clear ho hb1 F0 F2 HO2 hp1 hp2 hs1 hs2 zA zB HOW
    go_wp2_with fail
    try rw [← hW2]
    try simp only [← hB]
    clear hW2 hB
    refine heldH (S := fun W => W.cell? ⟨w.heap.size, 0, none⟩ = some (.int .i64 6) ∧ W.cell? ⟨w.heap.size, 1, none⟩ = some (.int .i64 x) ∧ W.cell? ⟨w.heap.size, 2, none⟩ = some (.int .i64 c) ∧ W.cell? ⟨rb, ro, none⟩ = some (.int .i64 r.pits) ∧ W.cell? ⟨rb, ro + 2, none⟩ = some (.bool r.stores)) (n := 25) (listed := #[false, false, false, false, false, false, false, false, false, false, false, false, false, false, false, false, false, false, false, false, false, false, false, false, false]) (by kernel_rfl) (by rfl) (by rfl) ?_ (fun hHeld => ?_)
    (focus ((try dsimp only); (first | done | (((refine HSK.out _ ?_; first | (with_reducible exact HB4.out) | exact B0.out)); done))))
    (refine takeH (i := 0) (v := ?_) (by decide +kernel) (by decide +kernel) (by kernel_rfl) (by rfl) (by exact fun _ _ _ h => h) (by rfl) ?_ (by assumption) ?_); rotate_left; (focus (intro w hSw; (try dsimp only at hSw); go_simp; (try with_reducible rfl); done)); (try simp only [Act.put, List.setIfInBounds_toArray, List.set_cons_zero, List.set_cons_succ])
    refine nextH (i := 1) (by decide +kernel) (by rfl) (by rfl) (fun K hK => ?_)
    go_simp
    ((go_at_call 106; (refine (HCW.out _).mono ?_); (rintro e w4 ⟨rfl, hb4⟩); (have HB4 := Lib.hid (below_next B0.out hb4))))
    refine hK.out _ _ ?_ (fun hHeld' => ?_)
    (focus ((try dsimp only); (first | done | (((refine HSK.out _ ?_; first | (with_reducible exact HB4.out) | exact B0.out)); done))))
    clear hK K hHeld
    have hHeld := hHeld'
    clear hHeld'
    (try simp only [Act.put, List.setIfInBounds_toArray, List.set_cons_zero, List.set_cons_succ])
    (refine takeH (i := 2) (v := ?_) (by decide +kernel) (by decide +kernel) (by kernel_rfl) (by rfl) (by exact fun _ _ _ h => h) (by rfl) ?_ (by assumption) ?_); rotate_left; (focus (intro w hSw; (try dsimp only at hSw); go_simp; (try with_reducible rfl); done)); (try simp only [Act.put, List.setIfInBounds_toArray, List.set_cons_zero, List.set_cons_succ])
    (refine takeH (i := 3) (v := ?_) (by decide +kernel) (by decide +kernel) (by kernel_rfl) (by rfl) (by exact fun _ _ _ h => h) (by rfl) ?_ (by assumption) ?_); rotate_left; (focus (intro w hSw; (try dsimp only at hSw); go_simp; (try with_reducible rfl); done)); (try simp only [Act.put, List.setIfInBounds_toArray, List.set_cons_zero, List.set_cons_succ])
    (refine takeH (i := 4) (v := ?_) (by decide +kernel) (by decide +kernel) (by kernel_rfl) (by rfl) (by exact fun _ _ _ h => h) (by rfl) ?_ (by assumption) ?_); rotate_left; (focus (intro w hSw; (try dsimp only at hSw); go_simp; (try with_reducible rfl); done)); (try simp only [Act.put, List.setIfInBounds_toArray, List.set_cons_zero, List.set_cons_succ])
    (refine takeH (i := 5) (v := ?_) (by decide +kernel) (by decide +kernel) (by kernel_rfl) (by rfl) (by exact fun _ _ _ h => h) (by rfl) ?_ (by assumption) ?_); rotate_left; (focus (intro w hSw; (try dsimp only at hSw); go_simp; (try with_reducible rfl); done)); (try simp only [Act.put, List.setIfInBounds_toArray, List.set_cons_zero, List.set_cons_succ])
    (refine takeH (i := 6) (v := ?_) (by decide +kernel) (by decide +kernel) (by kernel_rfl) (by rfl) (by exact fun _ _ _ h => h) (by rfl) ?_ (by assumption) ?_); rotate_left; (focus (intro w hSw; (try dsimp only at hSw); go_simp; (try with_reducible rfl); done)); (try simp only [Act.put, List.setIfInBounds_toArray, List.set_cons_zero, List.set_cons_succ])
    (refine takeH (i := 7) (v := ?_) (by decide +kernel) (by decide +kernel) (by kernel_rfl) (by rfl) (by exact fun _ _ _ h => h) (by rfl) ?_ (by assumption) ?_); rotate_left; (focus (intro w hSw; (try dsimp only at hSw); go_simp; (try with_reducible rfl); done)); (try simp only [Act.put, List.setIfInBounds_toArray, List.set_cons_zero, List.set_cons_succ])
    (refine takeH (i := 8) (v := ?_) (by decide +kernel) (by decide +kernel) (by kernel_rfl) (by rfl) (by exact fun _ _ _ h => h) (by rfl) ?_ (by assumption) ?_); rotate_left; (focus (intro w hSw; (try dsimp only at hSw); go_simp; (try with_reducible rfl); done)); (try simp only [Act.put, List.setIfInBounds_toArray, List.set_cons_zero, List.set_cons_succ])
    (refine takeH (i := 9) (v := ?_) (by decide +kernel) (by decide +kernel) (by kernel_rfl) (by rfl) (by exact fun _ _ _ h => h) (by rfl) ?_ (by assumption) ?_); rotate_left; (focus (intro w hSw; (try dsimp only at hSw); go_simp; (try with_reducible rfl); done)); (try simp only [Act.put, List.setIfInBounds_toArray, List.set_cons_zero, List.set_cons_succ])
    (refine takeH (i := 10) (v := ?_) (by decide +kernel) (by decide +kernel) (by kernel_rfl) (by rfl) (by exact fun _ _ _ h => h) (by rfl) ?_ (by assumption) ?_); rotate_left; (focus (intro w hSw; (try dsimp only at hSw); go_simp; (try with_reducible rfl); done)); (try simp only [Act.put, List.setIfInBounds_toArray, List.set_cons_zero, List.set_cons_succ])
    (refine takeH (i := 11) (v := ?_) (by decide +kernel) (by decide +kernel) (by kernel_rfl) (by rfl) (by exact fun _ _ _ h => h) (by rfl) ?_ (by assumption) ?_); rotate_left; (focus (intro w hSw; (try dsimp only at hSw); go_simp; (try with_reducible rfl); done)); (try simp only [Act.put, List.setIfInBounds_toArray, List.set_cons_zero, List.set_cons_succ])
    (refine takeH (i := 12) (v := ?_) (by decide +kernel) (by decide +kernel) (by kernel_rfl) (by rfl) (by exact fun _ _ _ h => h) (by rfl) ?_ (by assumption) ?_); rotate_left; (focus (intro w hSw; (try dsimp only at hSw); go_simp; (try with_reducible rfl); done)); (try simp only [Act.put, List.setIfInBounds_toArray, List.set_cons_zero, List.set_cons_succ])
    (refine takeH (i := 13) (v := ?_) (by decide +kernel) (by decide +kernel) (by kernel_rfl) (by rfl) (by exact fun _ _ _ h => h) (by rfl) ?_ (by assumption) ?_); rotate_left; (focus (intro w hSw; (try dsimp only at hSw); go_simp; (try with_reducible rfl); done)); (try simp only [Act.put, List.setIfInBounds_toArray, List.set_cons_zero, List.set_cons_succ])
    (refine takeH (i := 14) (v := ?_) (by decide +kernel) (by decide +kernel) (by kernel_rfl) (by rfl) (by exact fun _ _ _ h => h) (by rfl) ?_ (by assumption) ?_); rotate_left; (focus (intro w hSw; (try dsimp only at hSw); go_simp; (try with_reducible rfl); done)); (try simp only [Act.put, List.setIfInBounds_toArray, List.set_cons_zero, List.set_cons_succ])
    (refine takeH (i := 15) (v := ?_) (by decide +kernel) (by decide +kernel) (by kernel_rfl) (by rfl) (by exact fun _ _ _ h => h) (by rfl) ?_ (by assumption) ?_); rotate_left; (focus (intro w hSw; (try dsimp only at hSw); go_simp; (try with_reducible rfl); done)); (try simp only [Act.put, List.setIfInBounds_toArray, List.set_cons_zero, List.set_cons_succ])
    (refine takeH (i := 16) (v := ?_) (by decide +kernel) (by decide +kernel) (by kernel_rfl) (by rfl) (by exact fun _ _ _ h => h) (by rfl) ?_ (by assumption) ?_); rotate_left; (focus (intro w hSw; (try dsimp only at hSw); go_simp; (try with_reducible rfl); done)); (try simp only [Act.put, List.setIfInBounds_toArray, List.set_cons_zero, List.set_cons_succ])
    (refine takeH (i := 17) (v := ?_) (by decide +kernel) (by decide +kernel) (by kernel_rfl) (by rfl) (by exact fun _ _ _ h => h) (by rfl) ?_ (by assumption) ?_); rotate_left; (focus (intro w hSw; (try dsimp only at hSw); go_simp; (try with_reducible rfl); done)); (try simp only [Act.put, List.setIfInBounds_toArray, List.set_cons_zero, List.set_cons_succ])
    ((refine skipH (i := 18) (by decide +kernel) (by decide +kernel) (by kernel_rfl) (by rfl) (by exact fun _ _ _ h => h) (by rfl) (by assumption) ?_); (try simp only [Act.put, List.setIfInBounds_toArray, List.set_cons_zero, List.set_cons_succ]))
    ((refine skipH (i := 19) (by decide +kernel) (by decide +kernel) (by kernel_rfl) (by rfl) (by exact fun _ _ _ h => h) (by rfl) (by assumption) ?_); (try simp only [Act.put, List.setIfInBounds_toArray, List.set_cons_zero, List.set_cons_succ]))
    ((refine skipH (i := 20) (by decide +kernel) (by decide +kernel) (by kernel_rfl) (by rfl) (by exact fun _ _ _ h => h) (by rfl) (by assumption) ?_); (try simp only [Act.put, List.setIfInBounds_toArray, List.set_cons_zero, List.set_cons_succ]))
    ((refine skipH (i := 21) (by decide +kernel) (by decide +kernel) (by kernel_rfl) (by rfl) (by exact fun _ _ _ h => h) (by rfl) (by assumption) ?_); (try simp only [Act.put, List.setIfInBounds_toArray, List.set_cons_zero, List.set_cons_succ]))
    ((refine skipH (i := 22) (by decide +kernel) (by decide +kernel) (by kernel_rfl) (by rfl) (by exact fun _ _ _ h => h) (by rfl) (by assumption) ?_); (try simp only [Act.put, List.setIfInBounds_toArray, List.set_cons_zero, List.set_cons_succ]))
    (refine takeH (i := 23) (v := ?_) (by decide +kernel) (by decide +kernel) (by kernel_rfl) (by rfl) (by exact fun _ _ _ h => h) (by rfl) ?_ (by assumption) ?_); rotate_left; (focus (intro w hSw; (try dsimp only at hSw); go_simp; (try with_reducible rfl); done)); (try simp only [Act.put, List.setIfInBounds_toArray, List.set_cons_zero, List.set_cons_succ])
    (refine takeH (i := 24) (v := ?_) (by decide +kernel) (by decide +kernel) (by kernel_rfl) (by rfl) (by exact fun _ _ _ h => h) (by rfl) ?_ (by assumption) ?_); rotate_left; (focus (intro w hSw; (try dsimp only at hSw); go_simp; (try with_reducible rfl); done)); (try simp only [Act.put, List.setIfInBounds_toArray, List.set_cons_zero, List.set_cons_succ])
    refine wpAnyH_done (by decide +kernel) ?_ _
    have F4 := HF2.out.step HB4.out
    have A4 := HOU.out.below HB4.out
    obtain ⟨bx, bf⟩ := F4.at 0 rfl
    obtain ⟨x0, x1, x2⟩ := (⟨bx 0 _ rfl, bx 1 _ rfl, bx 2 _ rfl⟩ : _ ∧ _ ∧ _)
    obtain ⟨d0, d1, d2⟩ := (⟨F4.at 1 rfl 0 _ rfl, F4.at 1 rfl 1 _ rfl, F4.at 1 rfl 2 _ rfl⟩ : _ ∧ _ ∧ _)
    have zD : w.heap.size + 1 < w4.heap.size := F4.le 0 rfl
    have zE : w.heap.size < w4.heap.size := F4.le 1 rfl
    have pcell := (HR0.out _ F4.below).2.2
    have k0 := A4.sn.c0
    have k1 := A4.sn.c1
    have k2 := A4.c2
    have kf := A4.fz
    simp only [Nat.zero_add] at k0 k1
    have n1 := A4.sn.n1
    have n2 := A4.sn.n2
    have n3 := A4.sn.n3
    obtain ⟨n1', n2', n3'⟩ : ¬ sg = pg ∧ ¬ B = pg ∧ ¬ B = sg := ⟨fun e => n1 e.symm, fun e => n2 e.symm, fun e => n3 e.symm⟩
    have nbB := A4.sn.nb0
    have nbp := (A4.sn.op.lt pg rfl).1
    have nbs := (A4.sn.os.lt sg rfl).1
    obtain ⟨q1, q2, q3, q4, q5, q6⟩ : ¬ w.heap.size = B ∧ ¬ w.heap.size = pg ∧ ¬ w.heap.size = sg ∧ ¬ w.heap.size + 1 = B ∧ ¬ w.heap.size + 1 = pg ∧ ¬ w.heap.size + 1 = sg := by omega
    obtain ⟨q7, q8, q9⟩ : ¬ pb = B ∧ ¬ pb = pg ∧ ¬ pb = sg := by omega
    have HF := Lib.hid F4
    have HA := Lib.hid A4
    clear F4 A4 bx HF2 HOU HSK B0 HB4 hb4 hHeld HR0 HCW
    have HO2 := Lib.hid (HA.out.play (1 - pn))
    have B1 := HF.out.below
    go_wp2
    refine bodyPost_ret (v := .tuple #[P.val ⟨pits, stores, 1 - pn⟩ (some ⟨pg, 0, none⟩) uc (some ⟨sg, 0, none⟩) vc, .int .i64 0, .bool true]) (by simp [results, Try.results57, go_sem, x0, x1, x2, bf, zD, P.val, P.cells]) rfl ?_
    refine ⟨?_, .inr ⟨_, ⟨_, _, _, _⟩, _, HS.out, rfl, ?_⟩⟩
    · repeat (first | (with_reducible exact B1) | ((with_reducible refine Below.setCell ?_ ?_ _); rotate_left; (simp <;> omega)) | (with_reducible refine Below.drew ?_) | (with_reducible exact Below.trans B1 (below_draws _ _ _)))
    have k9 := HO2.out.own (low := w.heap.size + 1 + 1) (Nat.le_refl _)
    refine ⟨?_, ?_, k9.apart⟩
    · have k0 := k9.pits
      dsimp only at k0 ⊢
      (try simp only [List.length_set] at k0)
      (try simp only [List.length_set])
      refine ownsRow_le (base := w.heap.size + 1 + 1) ?_ (by omega)
      repeat (first | (with_reducible exact k0) | (with_reducible refine World.ownsRow.drew ?_) | ((with_reducible refine ownsRow_setCell_below ?_ ?_ _); rotate_left; (simp <;> omega)))
    · have k0 := k9.stores
      dsimp only at k0 ⊢
      (try simp only [List.length_set] at k0)
      (try simp only [List.length_set])
      refine ownsRow_le (base := w.heap.size + 1 + 1) ?_ (by omega)
      repeat (first | (with_reducible exact k0) | (with_reducible refine World.ownsRow.drew ?_) | ((with_reducible refine ownsRow_setCell_below ?_ ?_ _); rotate_left; (simp <;> omega)))

end Go.Proofs.Ytbjgigdkbjabaaa
