/- LastS: where the last seed of a lap falls: the reference's contract. It holds for every argument, under the premises that it states. -/
import Derived.Test.YtfnkfipeacjeaaaMov2
import Derived.Test.YtfnkfipeacjeaaaSCode
import Derived.Test.YtfnkfipeacjeaaaLast
namespace Go.Proofs.Ytfnkfipeacjeaaa
set_option linter.unusedSimpArgs false
set_option linter.unusedVariables false
set_option linter.unnecessarySimpa false
open Go.RowKit Go.ChangeShapes Go.WideShapes Go.ChangeAt Go.Joins

theorem own_none2 (w : World) (base : Nat) (h : base ≤ w.heap.size) : OwnI (w.alloc (.cells #[] 2)) base (some ⟨w.heap.size, 0, none⟩) 0 [] := by
  have := World.ownsRow_lit (base := base) (e := 2) (size := 1) w #[] 0 h (Nat.zero_le _) rfl
  simpa [OwnI] using this
set_option maxRecDepth 100000 in
set_option maxHeartbeats 4000000 in
theorem sLastPlace_c (r : R) (pl move seeds : Int) (w : World) :
    Calls Try.prog 15 #[r.val, .int .i64 pl, .int .i64 move, .int .i64 seeds] w fun e w' => e = .returned (.tuple #[.int .i64 (lastP r pl move seeds).1, .int .i64 (lastP r pl move seeds).2]) ∧ Below w.heap.size w w' := by
  obtain ⟨i0, hi, hz0, hz1, hz2⟩ := info_parts infoI
  have F1 := (Fr.start w).alloc r.cells 26
  have HR := Lib.hid (R.boxc (F1.at 0 rfl))
  cases hok : r.ok
  · have HOK := Lib.hid hok
    go_enter Try.func15, Try.ntmps15
    go_wp2_with (go_at_call 58; refine (l02Ok_c _ _ _ _ HR.out).mono ?_; rintro e w' ⟨rfl, rfl⟩; rw [hok])
    go_ret2
    exact ⟨by simp [lastP, HOK.out], F1.below⟩
  have hbd := R.ok_bd hok
  have hlo := hbd.lo
  have hhi := hbd.hi
  have HOK := Lib.hid hok
  by_cases hcond : inB pl 0 1 = false ∨ inB move 0 (r.pits - 1) = false ∨ inB seeds 1 96 = false
  · have HC : Hid (lastP r pl move seeds = (0, 2)) := by unfold Hid lastP; rw [if_neg (by rw [hok]; simp), if_pos hcond]
    obtain ⟨y, hy⟩ : ∃ y, y = lastP r pl move seeds := ⟨_, rfl⟩
    rw [← hy] at HC ⊢
    clear hy
    go_enter Try.func15, Try.ntmps15
    go_wp2_with fail
    refine (l02Ok_c _ _ _ _ HR.out).mono ?_
    rintro e w' ⟨rfl, rfl⟩
    rw [hok]
    cases h1 : inB pl 0 1
    · go_wp2_with (go_at_call 59; refine (l00In_c _ _ _ _).mono ?_; rintro e w' ⟨rfl, rfl⟩; rw [h1])
      go_ret2
      exact ⟨by rw [HC.out]; rfl, F1.below⟩
    cases h2 : inB move 0 (r.pits - 1)
    · go_wp2_with (go_at_call 59; refine (l00In_c _ _ _ _).mono ?_; rintro e w' ⟨rfl, rfl⟩; first | rw [h1] | rw [h2])
      go_ret2
      exact ⟨by rw [HC.out]; rfl, F1.below⟩
    cases h3 : inB seeds 1 96
    · go_wp2_with (go_at_call 59; refine (l00In_c _ _ _ _).mono ?_; rintro e w' ⟨rfl, rfl⟩; first | rw [h1] | rw [h2] | rw [h3])
      go_ret2
      exact ⟨by rw [HC.out]; rfl, F1.below⟩
    rw [h1, h2, h3] at hcond
    simp at hcond
  have h1 : inB pl 0 1 = true := by cases h : inB pl 0 1 <;> simp_all
  have h2 : inB move 0 (r.pits - 1) = true := by cases h : inB move 0 (r.pits - 1) <;> simp_all
  have h3 : inB seeds 1 96 = true := by cases h : inB seeds 1 96 <;> simp_all
  obtain ⟨p0, p1⟩ := inB_iff.1 h1
  obtain ⟨q0, q1⟩ := inB_iff.1 h2
  obtain ⟨t0, t1⟩ := inB_iff.1 h3
  obtain ⟨pn, hpn⟩ : ∃ pn : Nat, pl = pn := ⟨pl.toNat, by omega⟩
  subst hpn
  have hpn1 : pn ≤ 1 := by omega
  obtain ⟨n, hn⟩ : ∃ n : Nat, 2 * r.pits = n := ⟨(2 * r.pits).toNat, by omega⟩
  have hm0 : 0 ≤ (pn : Int) * r.pits := Int.mul_nonneg (by omega) (by omega)
  have hm1 : (pn : Int) * r.pits ≤ 1 * r.pits := Int.mul_le_mul_of_nonneg_right (by omega) (by omega)
  obtain ⟨fn, hfn⟩ : ∃ fn : Nat, (pn : Int) * r.pits + move = fn := ⟨((pn : Int) * r.pits + move).toNat, by omega⟩
  have hfl : fn < n := by omega
  obtain ⟨L, hL⟩ : ∃ L, L = lapP r pn fn ((List.replicate n 0).set fn seeds) [0, 0] [] := ⟨_, rfl⟩
  have HC : Hid (lastP r pn move seeds = (L.last, 0)) := by
    unfold Hid lastP oneP
    rw [if_neg (by rw [hok]; simp), if_neg hcond, hfn, hn, hL]
    simp
  obtain ⟨y, hy⟩ : ∃ y, y = lastP r pn move seeds := ⟨_, rfl⟩
  rw [← hy] at HC ⊢
  have HL := Lib.hid hL
  have HN := Lib.hid hn
  have hmp : (pn : Int) * r.pits ≤ 8 := by omega
  clear hy hcond hL hm1
  go_enter Try.func15, Try.ntmps15
  go_wp2_with fail
  refine (l02Ok_c _ _ _ _ HR.out).mono ?_
  rintro e w' ⟨rfl, rfl⟩
  rw [hok]
  go_wp2_with (first | (go_at_call 59; refine (l00In_c _ _ _ _).mono ?_; rintro e w' ⟨rfl, rfl⟩; first | rw [h1] | rw [h2] | rw [h3]) | (at_make; refine wpList_make_full _ rfl _ _ 34 rfl (w.alloc (.cells r.cells 26)).heap.size 2 i0 (.int .i64 0) 1 Try.underlying34 hi hz0 hz1 _ _ _ _ n rfl rfl rfl rfl ?c1 ?c2 ?c3 ?_))
  case c1 => rw [hz2]; omega
  case c2 => unfold maxLen; omega
  case c3 => simp
  intro w3 hown hgr
  have hb3 : Below (w.alloc (.cells r.cells 26)).heap.size (w.alloc (.cells r.cells 26)) w3 := (Below.refl _ _).grown hgr (Nat.le_refl _) (fun k h => by cases h)
  rw [toList_madeCells_one, ← List.map_replicate (f := Value.int .i64)] at hown
  simp only [World.size_alloc] at hown hb3
  obtain ⟨g, hg⟩ : ∃ g, g = w.heap.size + 1 := ⟨_, rfl⟩
  have zg : g < w3.heap.size := by rw [hg]; exact (hown.lt _ (by simp [Value.ownBlock])).2
  have F3 := F1.step (hb3.mono (by simp))
  have hcell : w3.cell? ⟨g, fn, none⟩ = some (.int .i64 0) := by rw [hg, hown.cellAt fn (by simp; omega)]; simp [hfl]
  have hfro : w3.frozen? ⟨g, fn, none⟩ = false := by rw [hg]; exact hown.frozenAt fn
  have hst := hown.stored fn (.int .i64 seeds)
  obtain ⟨P', hP'⟩ : ∃ P', P' = (List.replicate n (0 : Int)).set fn seeds := ⟨_, rfl⟩
  have hPl : P'.length = n := by rw [hP']; simp
  have hrow : (w3.setCell ⟨g, fn, none⟩ (.int .i64 seeds)).ownsRow (w.heap.size + 1) 2 1 (.slice (some ⟨g, 0, none⟩) n n) n (P'.map (Value.int .i64)) := by
    have h1 := hst.1
    rw [← List.map_set, ← hP'] at h1
    rw [hg]; simpa using h1
  rw [← hP'] at HL
  obtain ⟨c0, c1, c2, c3, c4, c5, c6, c7, c8⟩ := R.boxc (F3.at 0 rfl)
  have zA : w.heap.size < w3.heap.size := F3.le 0 rfl
  have hbdP : bdL P' 1000000 := by
    rw [hP']
    exact bdL_set (fun x hx => by have := List.eq_of_mem_replicate hx; omega) fn (by omega) (by omega)
  have n1 : ¬ w.heap.size = g := by omega
  have n1' : ¬ g = w.heap.size := by omega
  have hgb : w.heap.size + 1 ≤ g := by omega
  have HROW := Lib.hid hrow
  have HB3 := Lib.hid (F3.below.setCell (p := ⟨g, fn, none⟩) (by simp; omega) (.int .i64 seeds))
  have HR3 := Lib.hid (R.boxc (F3.at 0 rfl))
  try rw [← hg]
  clear hst hown hrow hP' hb3 hgr F3 F1 HR hg
  go_wp2_with fail
  have HNIL := own_none2 (((w3.setCell ⟨g, fn, none⟩ (.int .i64 seeds)).alloc (.cells #[.int .i64 0, .int .i64 0] 2)).alloc (.cells #[.slice (some ⟨g, 0, none⟩) n n, .slice (some ⟨w3.heap.size, 0, none⟩) 2 2, .int .i64 0, .int .i64 0] 39)) (w.heap.size + 1) (by simp; omega)
  have HLIT := (World.ownsRow_lit (base := w.heap.size + 1) (e := 2) (size := 1) (w3.setCell ⟨g, fn, none⟩ (.int .i64 seeds)) #[.int .i64 0, .int .i64 0] 2 (by simp; omega) (by unfold maxLen; omega) rfl)
  simp only [World.size_alloc, World.size_setCell] at HNIL HLIT
  have HBX : BoxP (w3.heap.size + 1) (#[.slice (some ⟨g, 0, none⟩) n n, .slice (some ⟨w3.heap.size, 0, none⟩) 2 2, .int .i64 0, .int .i64 0] : Array Value).toList ((((w3.setCell ⟨g, fn, none⟩ (.int .i64 seeds)).alloc (.cells #[.int .i64 0, .int .i64 0] 2)).alloc (.cells #[.slice (some ⟨g, 0, none⟩) n n, .slice (some ⟨w3.heap.size, 0, none⟩) 2 2, .int .i64 0, .int .i64 0] 39)).alloc (.cells #[] 2)) := fun j v hv => by
    refine ((below_alloc1 _ _).cell (show (Addr.mk (w3.heap.size + 1) j none).block < _ by simp)).trans ?_
    have := (made (w := (w3.setCell ⟨g, fn, none⟩ (.int .i64 seeds)).alloc (.cells #[.int .i64 0, .int .i64 0] 2)) (e := 39) rfl).2.1 j v hv
    simpa only [World.size_alloc, World.size_setCell] using this
  refine (l05Lap_c (w.heap.size + 1) w.heap.size 0 (w3.heap.size + 1) g n w3.heap.size 2 r hbd pn fn P' [0, 0] [] 0 0 (some ⟨w3.heap.size + 1 + 1, 0, none⟩) 0 _ ?_ ?_ ⟨?_, ?_, ?_, ?_, ?_, ?_, ?_, ?_⟩ ?_ ?_ ?_ HNIL ?_ hpn1 ?_ rfl ?_ hbdP (fun x hx => by simp at hx; omega) (by simp) ⟨by omega, by omega⟩).mono ?_
  · refine HR3.out.below (B := w.heap.size + 1) ?_ (by omega)
    exact ((((Below.refl _ _).setCell hgb _).alloc (by simp; omega) _).alloc (by simp; omega) _).alloc (by simp; omega) _
  · omega
  · rw [hPl]; exact HBX 0 _ rfl
  · exact HBX 1 _ rfl
  · have := ((HROW.out.alloc (.cells #[.int .i64 0, .int .i64 0] 2)).alloc (.cells #[.slice (some ⟨g, 0, none⟩) n n, .slice (some ⟨w3.heap.size, 0, none⟩) 2 2, .int .i64 0, .int .i64 0] 39)).alloc (.cells #[] 2); simpa [OwnI, hPl] using this
  · have := (HLIT.alloc (.cells #[.slice (some ⟨g, 0, none⟩) n n, .slice (some ⟨w3.heap.size, 0, none⟩) 2 2, .int .i64 0, .int .i64 0] 39)).alloc (.cells #[] 2); simpa [OwnI] using this
  · omega
  · omega
  · omega
  · omega
  · exact HBX 2 _ rfl
  · exact HBX 3 _ rfl
  · intro o; exact ((bcell (below_alloc1 _ _)).2 _ o (by simp)).trans (by simp [go_sem])
  · intro k hk; simp [Value.ownBlock] at hk; omega
  · rw [hPl]; exact HN.out.symm
  · omega
  rintro e w5 ⟨ta1, tc1, rfl, hs1, hx2, hx3, hfz1, ho1, ha1, hb5⟩
  rw [← HL.out] at hx2
  have HB5 : Hid (Below w.heap.size w w5) := (((HB3.out.alloc (by simp; omega) (.cells #[.int .i64 0, .int .i64 0] 2)).alloc (by simp; omega) (.cells #[.slice (some ⟨g, 0, none⟩) n n, .slice (some ⟨w3.heap.size, 0, none⟩) 2 2, .int .i64 0, .int .i64 0] 39)).alloc (by simp; omega) (.cells #[] 2)).trans (hb5.mono (by omega))
  clear hs1 hx3 hfz1 ho1 ha1 hb5 HBX HLIT HNIL
  go_wp2
  go_ret2
  exact ⟨by rw [HC.out]; rfl, HB5.out⟩

end Go.Proofs.Ytfnkfipeacjeaaa
