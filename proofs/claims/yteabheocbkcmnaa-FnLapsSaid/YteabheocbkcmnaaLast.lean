/- Last: where the last seed of a lap falls: the contracts of both sides. Each holds for every argument, under the premises that it states. -/
import Derived.Test.YteabheocbkcmnaaMov2
import Derived.Test.YteabheocbkcmnaaSCode
namespace Go.Proofs.Yteabheocbkcmnaa
set_option linter.unusedSimpArgs false
set_option linter.unusedVariables false
set_option linter.unnecessarySimpa false
open Go.RowKit Go.ChangeShapes Go.WideShapes Go.ChangeAt Go.Joins

/-- an empty board with some seeds in a pit -/
def oneP (r : R) (pl from_ seeds : Int) : P := ⟨(List.replicate (2 * r.pits).toNat 0).set from_.toNat seeds, [0, 0], pl⟩
def lastP (r : R) (pl move seeds : Int) : Int × Int :=
  if r.ok = false then (0, 1) else if inB pl 0 1 = false ∨ inB move 0 (r.pits - 1) = false ∨ inB seeds 1 96 = false then (0, 2)
  else ((lapP r pl (pl * r.pits + move) (oneP r pl (pl * r.pits + move) seeds).pits [0, 0] []).last, 0)

theorem made_zeros (n : Nat) : (madeCells #[Value.int .i64 0] n).toList = (List.replicate n (0 : Int)).map (Value.int .i64) := by
  rw [toList_madeCells_one, List.map_replicate]
set_option maxRecDepth 100000 in
set_option maxHeartbeats 4000000 in
theorem iLastPlace_c (r : R) (pl move seeds : Int) (w : World) :
    Calls Try.prog 58 #[r.val, .int .i64 pl, .int .i64 move, .int .i64 seeds] w fun e w' => e = .returned (.tuple #[.int .i64 (lastP r pl move seeds).1, .int .i64 (lastP r pl move seeds).2]) ∧ Below w.heap.size w w' := by
  obtain ⟨i0, hi, hz0, hz1, hz2⟩ := info_parts infoI
  have F0 := (Fr.start w).alloc r.cells 24
  cases hok : r.ok
  · have HOK := Lib.hid hok
    go_enter Try.func58, Try.ntmps58
    go_wp2_with fail
    refine (ValidRules_c r _).mono ?_
    rintro e w1 ⟨rfl, hb1⟩
    rw [hok]
    have B1 := (F0.step hb1).below
    clear hok hb1 F0
    go_wp2
    go_ret2
    exact ⟨by simp [lastP, HOK.out], B1⟩
  have hbd := R.ok_bd hok
  have hlo := hbd.lo
  have hhi := hbd.hi
  have HOK := Lib.hid hok
  by_cases hcond : inB pl 0 1 = false ∨ inB move 0 (r.pits - 1) = false ∨ inB seeds 1 96 = false
  · have HC : Hid (lastP r pl move seeds = (0, 2)) := by unfold Hid lastP; rw [if_neg (by rw [hok]; simp), if_pos hcond]
    obtain ⟨y, hy⟩ : ∃ y, y = lastP r pl move seeds := ⟨_, rfl⟩
    rw [← hy] at HC ⊢
    go_enter Try.func58, Try.ntmps58
    go_wp2_with fail
    refine (ValidRules_c r _).mono ?_
    rintro e w1 ⟨rfl, hb1⟩
    rw [hok]
    have F1 := F0.step hb1
    obtain ⟨c0, c1, c2, c3, c4, c5, c6, c7, c8⟩ := R.boxc (F1.at 0 rfl)
    have zA : w.heap.size < w1.heap.size := F1.le 0 rfl
    clear hok hb1 F0 hy
    cases h1 : inB pl 0 1
    · go_wp2_with (go_at_call 121; refine (isPlayer2_c _ _).mono ?_; rintro e w' ⟨rfl, rfl⟩; rw [h1])
      go_ret2
      exact ⟨by rw [HC.out]; rfl, F1.below⟩
    cases h2 : inB move 0 (r.pits - 1)
    · go_wp2_with (first | (go_at_call 121; refine (isPlayer2_c _ _).mono ?_; rintro e w' ⟨rfl, rfl⟩; rw [h1]) | (go_at_call 122; refine (isMove_c r move _ hbd).mono ?_; rintro e w2 ⟨rfl, hb2⟩; rw [h2]))
      go_ret2
      exact ⟨by rw [HC.out]; rfl, (F1.step hb2).below⟩
    cases h3 : inB seeds 1 96
    · go_wp2_with (first | (go_at_call 121; refine (isPlayer2_c _ _).mono ?_; rintro e w' ⟨rfl, rfl⟩; rw [h1]) | (go_at_call 122; refine (isMove_c r move _ hbd).mono ?_; rintro e w2 ⟨rfl, hb2⟩; rw [h2]) | (go_at_call 87; refine (between_c _ _ _ _).mono ?_; rintro e w' ⟨rfl, rfl⟩; rw [h3]))
      go_ret2
      exact ⟨by rw [HC.out]; rfl, (F1.step hb2).below⟩
    rw [h1, h2, h3] at hcond
    simp at hcond
  have h1 : inB pl 0 1 = true := by cases h : inB pl 0 1 <;> simp_all
  have h2 : inB move 0 (r.pits - 1) = true := by cases h : inB move 0 (r.pits - 1) <;> simp_all
  have h3 : inB seeds 1 96 = true := by cases h : inB seeds 1 96 <;> simp_all
  obtain ⟨p0, p1⟩ := inB_iff.1 h1
  obtain ⟨q0, q1⟩ := inB_iff.1 h2
  obtain ⟨t0, t1⟩ := inB_iff.1 h3
  obtain ⟨pn, hpn⟩ : ∃ pn : Nat, pl = pn := ⟨pl.toNat, by omega⟩
  subst hpn
  have hpn1 : pn ≤ 1 := by omega
  obtain ⟨n, hn⟩ : ∃ n : Nat, 2 * r.pits = n := ⟨(2 * r.pits).toNat, by omega⟩
  have hm0 : 0 ≤ (pn : Int) * r.pits := Int.mul_nonneg (by omega) (by omega)
  have hm1 : (pn : Int) * r.pits ≤ 1 * r.pits := Int.mul_le_mul_of_nonneg_right (by omega) (by omega)
  obtain ⟨fn, hfn⟩ : ∃ fn : Nat, (pn : Int) * r.pits + move = fn := ⟨((pn : Int) * r.pits + move).toNat, by omega⟩
  have hfl : fn < n := by omega
  obtain ⟨L, hL⟩ : ∃ L, L = lapP r pn fn ((List.replicate n 0).set fn seeds) [0, 0] [] := ⟨_, rfl⟩
  have HC : Hid (lastP r pn move seeds = (L.last, 0)) := by
    unfold Hid lastP oneP
    rw [if_neg (by rw [hok]; simp), if_neg hcond, hfn, hn, hL]
    simp
  obtain ⟨y, hy⟩ : ∃ y, y = lastP r pn move seeds := ⟨_, rfl⟩
  rw [← hy] at HC ⊢
  have HPC : Hid (∀ W, Calls Try.prog 123 #[r.val, .int .i64 (pn : Int), .int .i64 move] W fun e w' => e = .returned (.int .i64 (fn : Int)) ∧ Below W.heap.size W w') := fun W => by
    have := pitOf_c r pn move W hbd hpn1 ⟨by omega, by omega⟩
    rw [hfn] at this
    exact this
  have HL := Lib.hid hL
  have HN := Lib.hid hn
  clear hy hcond hL
  go_enter Try.func58, Try.ntmps58
  go_wp2_with fail
  refine (ValidRules_c r _).mono ?_
  rintro e w1 ⟨rfl, hb1⟩
  rw [hok]
  have F1 := F0.step hb1
  obtain ⟨c0, c1, c2, c3, c4, c5, c6, c7, c8⟩ := R.boxc (F1.at 0 rfl)
  have zA : w.heap.size < w1.heap.size := F1.le 0 rfl
  clear hok hb1 F0
  go_wp2_with (go_at_call 121; refine (isPlayer2_c _ _).mono ?_; rintro e w' ⟨rfl, rfl⟩; rw [h1])
  refine (isMove_c r move _ hbd).mono ?_
  rintro e w2 ⟨rfl, hb2⟩
  rw [h2]
  have F2 := F1.step hb2
  clear c0 c1 c2 c3 c4 c5 c6 c7 c8 zA hb2 F1
  obtain ⟨c0, c1, c2, c3, c4, c5, c6, c7, c8⟩ := R.boxc (F2.at 0 rfl)
  have zA : w.heap.size < w2.heap.size := F2.le 0 rfl
  go_wp2_with (first | (go_at_call 87; refine (between_c _ _ _ _).mono ?_; rintro e w' ⟨rfl, rfl⟩; rw [h3]) | (at_make; refine wpList_make_full _ rfl _ _ 25 rfl w2.heap.size 2 i0 (.int .i64 0) 1 Try.underlying25 hi hz0 hz1 _ _ _ _ n rfl rfl rfl rfl ?c1 ?c2 ?c3 ?_))
  case c1 => rw [hz2]; omega
  case c2 => unfold maxLen; omega
  case c3 => exact Nat.le_refl _
  intro w3 hown hgr
  have hb3 : Below w2.heap.size w2 w3 := (Below.refl _ _).grown hgr (Nat.le_refl _) (fun k h => by cases h)
  rw [made_zeros] at hown
  have F3 := (F2.step hb3).own (lo := w2.heap.size) (xs := List.replicate n 0) (a := some ⟨w2.heap.size, 0, none⟩) (c := n) (by simpa [OwnI] using hown)
  obtain ⟨g, hg⟩ : ∃ g, g = w2.heap.size := ⟨_, rfl⟩
  rw [← hg] at F3 ⊢
  have zg : g < w3.heap.size := by rw [hg]; exact (hown.lt _ rfl).2
  have zg0 : w.heap.size < g := by rw [hg]; exact zA
  have F4 := ((F3.alloc #[.int .i64 0, .int .i64 0] 2).alloc #[.slice (some ⟨g, 0, none⟩) n n, .slice (some ⟨w3.heap.size, 0, none⟩) 2 2, .int .i64 pn] 27)
  clear c0 c1 c2 c3 c4 c5 c6 c7 c8 zA hgr F2 hown hg
  obtain ⟨c0, c1, c2, c3, c4, c5, c6, c7, c8⟩ := R.boxc (F3.at 1 rfl)
  have zA : w.heap.size < w3.heap.size := F3.le 1 rfl
  clear F3
  go_wp2_with fail
  refine (HPC.out _).mono ?_
  rintro e w4 ⟨rfl, hb4⟩
  have F5 := F4.step hb4
  simp only [World.size_alloc] at F5
  clear c0 c1 c2 c3 c4 c5 c6 c7 c8 zA F4
  have h4s := hb4.size
  simp only [World.size_alloc] at h4s
  have e0 : w4.cell? ⟨w3.heap.size + 1, 0, none⟩ = some (.slice (some ⟨g, 0, none⟩) n n) := F5.at 0 rfl 0 _ rfl
  have zB : w3.heap.size + 1 < w4.heap.size := by omega
  have hrow := (F5.at 2 rfl).1
  have hcell : w4.cell? ⟨g, fn, none⟩ = some (.int .i64 0) := by rw [hrow.cellAt fn (by simp; omega)]; simp [hfl]
  have hfro : w4.frozen? ⟨g, fn, none⟩ = false := hrow.frozenAt fn
  have hst := hrow.stored fn (.int .i64 seeds)
  have zg4 : g < w4.heap.size := by omega
  go_upto_region 8 with fail
  have n1 : ¬ w.heap.size = g := by omega
  have n2 : ¬ w3.heap.size + 1 = g := by omega
  have n3 : ¬ w3.heap.size = g := by omega
  obtain ⟨P', hP'⟩ : ∃ P', P' = (List.replicate n (0 : Int)).set fn seeds := ⟨_, rfl⟩
  have hPl : P'.length = n := by rw [hP']; simp
  have hrw : PRow (w4.setCell ⟨g, fn, none⟩ (.int .i64 seeds)) ⟨P', [0, 0], pn⟩ (some ⟨g, 0, none⟩) (some ⟨w3.heap.size, 0, none⟩) := by
    refine ⟨?_, ?_⟩
    · have h1 := hst.1
      rw [← List.map_set, ← hP'] at h1
      exact own_row h1
    · have h2 : BoxP w3.heap.size (#[.int .i64 0, .int .i64 0] : Array Value).toList (w4.setCell ⟨g, fn, none⟩ (.int .i64 seeds)) := fun j v hv => (cell_other n3).trans (F5.at 1 rfl j v hv)
      exact h2.row
  have HNS := Lib.hid (newSowing_c r (⟨P', [0, 0], pn⟩ : P) pn rfl (some ⟨g, 0, none⟩) (some ⟨w3.heap.size, 0, none⟩) n 2 (w4.setCell ⟨g, fn, none⟩ (.int .i64 seeds)) hrw (by simp; omega) (by simp) (by simp; omega) (by simp))
  simp only [P.val, P.cells, hPl, List.length_cons, List.length_nil, Nat.zero_add, Nat.reduceAdd] at HNS
  rw [← hP'] at HL
  obtain ⟨c0, c1, c2, c3, c4, c5, c6, c7, c8⟩ := R.boxc (F5.at 3 rfl)
  obtain ⟨d0, d1, d2⟩ := (⟨F5.at 0 rfl 0 _ rfl, F5.at 0 rfl 1 _ rfl, F5.at 0 rfl 2 _ rfl⟩ : _ ∧ _ ∧ _)
  have zA4 : w.heap.size < w4.heap.size := by omega
  have hbdP : bdL P' 1000000 := by
    rw [hP']
    exact bdL_set (fun x hx => by have := List.eq_of_mem_replicate hx; omega) fn (by omega) (by omega)
  have HB4 := Lib.hid (F5.below.setCell (p := ⟨g, fn, none⟩) (by simp; omega) (.int .i64 seeds))
  clear hrow hst hcell hfro hP' hrw F5 e0
  go_wp2_with fail
  refine HNS.out.mono ?_
  rintro e w6 ⟨sb, pg, qc, sg, tc, ta, tac, rfl, hs, hf, hw, ho, ha, hb6⟩
  have HMV := Lib.hid (lap_c _ sb pg qc sg tc r hbd pn fn P' [0, 0] [] 0 0 ta tac w6 hs hf hw ho ha hpn1 (by rw [hPl]; exact HN.out.symm) rfl (by omega) hbdP (fun x hx => by simp at hx; omega) (by simp) ⟨by omega, by omega⟩)
  rw [← HL.out] at HMV
  have HB6 := Lib.hid (below_next HB4.out hb6)
  have z46 : w.heap.size ≤ (w4.setCell ⟨g, fn, none⟩ (.int .i64 seeds)).heap.size := HB4.out.size
  clear hs hf hw ho ha hb6 c0 c1 c2 c3 c4 c5 c6 c7 c8 d0 d1 d2 HNS
  go_wp2_with fail
  refine HMV.out.mono ?_
  rintro e w7 ⟨ta4, tac4, rfl, hs4, hf4, hw4, ho4, ha4, hb7⟩
  have k2 := hf4.c2
  simp only [Nat.reduceAdd] at k2
  have HB7 := Lib.hid (HB6.out.trans (hb7.mono z46))
  clear hs4 hf4 hw4 ho4 ha4 hb7
  go_wp2
  go_ret2
  exact ⟨by rw [HC.out]; rfl, HB7.out⟩

end Go.Proofs.Yteabheocbkcmnaa
