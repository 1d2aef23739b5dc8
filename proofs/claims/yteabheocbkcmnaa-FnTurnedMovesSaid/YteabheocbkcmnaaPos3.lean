/- Pos3: positions: the law's own function that marks them. The contract holds for every argument, under the premises that it states. -/
import Derived.Test.YteabheocbkcmnaaPos2
namespace Go.Proofs.Yteabheocbkcmnaa
set_option linter.unusedSimpArgs false
set_option linter.unusedVariables false
set_option linter.unnecessarySimpa false
open Go.RowKit Go.ChangeShapes Go.WideShapes Go.ChangeAt Go.Joins

theorem apart_symm {a b : Option Nat} (h : a = none ∨ a ≠ b) : b = none ∨ b ≠ a := by
  rcases h with e | e
  · cases b
    · exact .inl rfl
    · exact .inr (by rw [e]; simp)
  · exact .inr (fun h => e h.symm)
set_option maxHeartbeats 2000000 in
theorem markPosition_c (base hi : Nat) (p : P) (pa sa : Option Addr) (pc sc : Nat) (k : Int) (w : World) (h : POwn w base p pa pc sa sc) (h1 : ∀ b, (Value.slice pa p.pits.length pc).ownBlock = some b → b < hi) (h2 : ∀ b, (Value.slice sa p.stores.length sc).ownBlock = some b → b < hi)
    (hk : 0 ≤ k) (hk' : k + p.pits.length + p.stores.length ≤ 1099511627776) :
    Calls Try.prog 26 #[p.val pa pc sa sc, .int .i64 k] w fun e w' => e = .returned (.int .i64 (k + p.pits.length + p.stores.length)) ∧ Chg base hi w w' := by
  have F0 := (Fr.start w).alloc (p.cells pa pc sa sc) 27
  have hB := F0.at 0 rfl
  go_enter Try.func26, Try.ntmps26
  go_wp2_with fail
  refine (markInt64S_c base pa p.pits.length pc p.pits k _ (h.pits.alloc _) hk (by omega)).mono ?_
  rintro e w1 ⟨rfl, ho1, hg1⟩
  have hne : (Value.slice pa p.pits.length pc).ownBlock ≠ some w.heap.size := fun e => by have := (h.pits.lt _ e).2; omega
  have hB1 := BoxP.grown hB hg1 hne (by simp)
  obtain ⟨d0, d1, d2⟩ := P.boxc hB1
  have hst := (h.stores.alloc (.cells (p.cells pa pc sa sc) 27)).kept hg1 (apart_symm h.apart)
  have C1 : Chg base hi w w1 := (Chg.ofBelow (below_alloc1 w _)).trans (Chg.ofGrown hg1 (fun b hb => ⟨(h.pits.lt b hb).1, h1 b hb⟩))
  have HC1 := Lib.hid C1
  have zA : w.heap.size < w1.heap.size := by have := hg1.size; simp at this; omega
  clear ho1 hg1 hB hB1 F0 C1
  go_wp2_with fail
  refine (markInt64S_c base sa p.stores.length sc p.stores (k + p.pits.length) _ hst (by omega) (by omega)).mono ?_
  rintro e w2 ⟨rfl, ho2, hg2⟩
  have C2 := Lib.hid (HC1.out.trans (Chg.ofGrown hg2 (fun b hb => ⟨(h.stores.lt b hb).1, h2 b hb⟩)))
  clear ho2 hg2 hst d0 d1 d2
  go_wp2
  go_ret
  exact ⟨rfl, C2.out⟩

end Go.Proofs.Yteabheocbkcmnaa
