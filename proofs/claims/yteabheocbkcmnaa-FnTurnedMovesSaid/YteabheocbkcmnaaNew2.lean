/- New2: the sowing of a position: the contract. Holds for every argument, under the premises that it states. -/
import Derived.Test.YteabheocbkcmnaaNew
import Derived.Test.YteabheocbkcmnaaSowP
import Derived.Outline
namespace Go.Proofs.Yteabheocbkcmnaa
set_option linter.unusedSimpArgs false
set_option linter.unusedVariables false
set_option linter.unnecessarySimpa false
open Go.RowKit Go.ChangeShapes Go.WideShapes Go.ChangeAt Go.Joins

/-- a new sowing -/
def SowRes (w : World) (r : R) (p : P) (pn : Nat) (e : Ending) (w' : World) : Prop := ∃ sb pg pc sg sc ta tc,
  e = .returned (.pointer (some ⟨sb, 0, none⟩)) ∧ SnI w.heap.size w' sb 10 pg pc sg sc p.pits p.stores ∧ Fld w' sb 10 0 0 ∧ SwF w' sb r pn ta 0 tc ∧ OwnI w' w.heap.size ta tc [] ∧ TAp ta 0 tc sb pg sg ∧ Below w.heap.size w w'
set_option maxRecDepth 100000 in
set_option maxHeartbeats 4000000 in
theorem newSowing_c (r : R) (p : P) (pn : Nat) (hpn : p.player = pn) (pa sa : Option Addr) (pc sc : Nat) (w : World) (h : PRow w p pa sa) (m1 : p.pits.length ≤ 16777216) (m2 : p.stores.length ≤ 16777216) (l1 : 0 < p.pits.length) (l2 : 0 < p.stores.length) :
    Calls Try.prog 124 #[r.val, p.val pa pc sa sc] w (SowRes w r p pn) := by
  have HPN := Lib.hid hpn
  clear hpn
  have F0 := ((Fr.start w).alloc r.cells 24).alloc (p.cells pa pc sa sc) 27
  go_enter Try.func124, Try.ntmps124
  go_wp2_with fail
  refine (copied_c p pa sa pc sc _ (h.below F0.below (Nat.le_refl _)) m1 m2).mono ?_
  rintro e w1 ⟨pa', pc', sa', sc', rfl, ho, hb1⟩
  have F1 := F0.step hb1
  obtain ⟨c0, c1, c2, c3, c4, c5, c6, c7, c8⟩ := R.boxc (F1.at 1 rfl)
  have d2 := (F1.at 0 rfl) 2 (.int .i64 p.player) rfl
  have zA : w.heap.size < w1.heap.size := F1.le 1 rfl
  have zB : w.heap.size + 1 < w1.heap.size := by have := F1.le 0 rfl; simp at this; omega
  simp only [World.size_alloc] at d2 ho
  obtain ⟨pg, rfl, hp1, hp2⟩ := own_lt_n ho.pits l1
  obtain ⟨sg, rfl, hs1, hs2⟩ := own_lt_n ho.stores l2
  have hne : ¬ pg = sg := fun e => by rcases ho.apart with h | h <;> simp [Value.ownBlock] at h; exact h e
  have HO := Lib.hid ho
  have HB := Lib.hid F1.below
  clear hb1 F0 F1 ho
  go_wp2
  go_ret
  have B3 : Below w1.heap.size w1 (((w1.alloc (.cells #[.slice (some ⟨pg, 0, none⟩) p.pits.length pc', .slice (some ⟨sg, 0, none⟩) p.stores.length sc', .int .i64 p.player] 27)).alloc (.cells #[] 2)).alloc (.cells #[.int .i64 r.pits, .int .i64 r.seeds, .bool r.stores, .bool r.skip, .bool r.relay, .bool r.feed, .bool r.again, .int .i64 r.capture, .int .i64 r.slam, .int .i64 p.player, .slice (some ⟨pg, 0, none⟩) p.pits.length pc', .slice (some ⟨sg, 0, none⟩) p.stores.length sc', .int .i64 0, .int .i64 0, .slice (some ⟨w1.heap.size + 1, 0, none⟩) 0 0] 168)) :=
    ((below_alloc1 _ _).alloc (by simp) _).alloc (by simp <;> omega) _
  have BX : ∀ (j : Nat) (v : Value), (#[.int .i64 r.pits, .int .i64 r.seeds, .bool r.stores, .bool r.skip, .bool r.relay, .bool r.feed, .bool r.again, .int .i64 r.capture, .int .i64 r.slam, .int .i64 p.player, .slice (some ⟨pg, 0, none⟩) p.pits.length pc', .slice (some ⟨sg, 0, none⟩) p.stores.length sc', .int .i64 0, .int .i64 0, .slice (some ⟨w1.heap.size + 1, 0, none⟩) 0 0] : Array Value).toList[j]? = some v →
      (((w1.alloc (.cells #[.slice (some ⟨pg, 0, none⟩) p.pits.length pc', .slice (some ⟨sg, 0, none⟩) p.stores.length sc', .int .i64 p.player] 27)).alloc (.cells #[] 2)).alloc (.cells #[.int .i64 r.pits, .int .i64 r.seeds, .bool r.stores, .bool r.skip, .bool r.relay, .bool r.feed, .bool r.again, .int .i64 r.capture, .int .i64 r.slam, .int .i64 p.player, .slice (some ⟨pg, 0, none⟩) p.pits.length pc', .slice (some ⟨sg, 0, none⟩) p.stores.length sc', .int .i64 0, .int .i64 0, .slice (some ⟨w1.heap.size + 1, 0, none⟩) 0 0] 168)).cell? ⟨w1.heap.size + 1 + 1, j, none⟩ = some v := by
    intro j v hv
    have := (made (w := (w1.alloc (.cells #[.slice (some ⟨pg, 0, none⟩) p.pits.length pc', .slice (some ⟨sg, 0, none⟩) p.stores.length sc', .int .i64 p.player] 27)).alloc (.cells #[] 2)) (e := 168) rfl).2.1 j v hv
    simpa only [World.size_alloc] using this
  refine ⟨w1.heap.size + 1 + 1, pg, pc', sg, sc', some ⟨w1.heap.size + 1, 0, none⟩, 0, rfl, ⟨BX 10 _ rfl, BX 11 _ rfl, ?_, ?_, ?_, hne, by omega, by omega⟩, ⟨BX 12 _ rfl, BX 13 _ rfl, ?_⟩, ⟨⟨BX 0 _ rfl, BX 1 _ rfl, BX 2 _ rfl, BX 3 _ rfl, BX 4 _ rfl, BX 5 _ rfl, BX 6 _ rfl, BX 7 _ rfl, BX 8 _ rfl⟩, ?_, BX 14 _ rfl⟩, ?_, ?_, HB.out.trans (B3.mono (by omega))⟩
  · exact ownsRow_le (own_below HO.out.pits B3 (Nat.le_refl _)) (by omega)
  · exact ownsRow_le (own_below HO.out.stores B3 (Nat.le_refl _)) (by omega)
  · omega
  · intro o; simp [go_sem]
  · rw [← HPN.out]; exact BX 9 _ rfl
  · have := World.ownsRow_lit (base := w.heap.size) (e := 2) (size := 1) (w1.alloc (.cells #[.slice (some ⟨pg, 0, none⟩) p.pits.length pc', .slice (some ⟨sg, 0, none⟩) p.stores.length sc', .int .i64 p.player] 27)) #[] 0 (by rw [World.size_alloc]; omega) (Nat.zero_le _) rfl
    have h2 := own_below this (below_alloc1 _ (.cells #[.int .i64 r.pits, .int .i64 r.seeds, .bool r.stores, .bool r.skip, .bool r.relay, .bool r.feed, .bool r.again, .int .i64 r.capture, .int .i64 r.slam, .int .i64 p.player, .slice (some ⟨pg, 0, none⟩) p.pits.length pc', .slice (some ⟨sg, 0, none⟩) p.stores.length sc', .int .i64 0, .int .i64 0, .slice (some ⟨w1.heap.size + 1, 0, none⟩) 0 0] 168)) (Nat.le_refl _)
    simpa [OwnI] using h2
  · intro k hk; simp [Value.ownBlock] at hk; omega

end Go.Proofs.Yteabheocbkcmnaa
