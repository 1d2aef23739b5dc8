/- New: positions that are copied, and the sowing of a position: the contracts. Each holds for every argument, under the premises that it states. -/
import Derived.Test.YtbjgigdkbjabaaaPos
import Derived.Test.YtbjgigdkbjabaaaLap2
import Derived.Test.YtbjgigdkbjabaaaCopy
import Derived.Deep.RegionHeld3
import Derived.Test.YtbjgigdkbjabaaaSowP
import Derived.Outline
namespace Go.Proofs.Ytbjgigdkbjabaaa
set_option linter.unusedSimpArgs false
set_option linter.unusedVariables false
set_option linter.unnecessarySimpa false
open Go.RowKit Go.ChangeShapes Go.WideShapes Go.ChangeAt Go.Joins

/-- a result that is a position of the call's own -/
def PosRes (w : World) (p : P) (e : Ending) (w' : World) : Prop := ∃ pa pc sa sc, e = .returned (p.val pa pc sa sc) ∧ POwn w' w.heap.size p pa pc sa sc ∧ Below w.heap.size w w'
theorem apart_of {w1 w2 : World} {b1 b2 n1 n2 c1 c2 : Nat} {a1 a2 : Option Addr} {l1 l2 : List Value} (h1 : w1.ownsRow b1 2 1 (.slice a1 n1 c1) n1 l1) (h2 : w2.ownsRow b2 2 1 (.slice a2 n2 c2) n2 l2) (hs : w1.heap.size ≤ b2) :
    (Value.slice a1 n1 c1).ownBlock = none ∨ (Value.slice a1 n1 c1).ownBlock ≠ (Value.slice a2 n2 c2).ownBlock := by
  cases h : (Value.slice a1 n1 c1).ownBlock with
  | none => exact .inl rfl
  | some k =>
    refine .inr (fun e => ?_)
    have := (h1.lt k h).2
    have := (h2.lt k e.symm).1
    omega

set_option maxRecDepth 100000 in
set_option maxHeartbeats 4000000 in
theorem copied_c (p : P) (pa sa : Option Addr) (pc sc : Nat) (w : World) (h : PRow w p pa sa) (m1 : p.pits.length ≤ 16777216) (m2 : p.stores.length ≤ 16777216) :
    Calls Try.prog 61 #[p.val pa pc sa sc] w (PosRes w p) := by
  go_enter Try.func61, Try.ntmps61
  go_wp2_with fail
  go_region_held3 (fun w' => w'.cell? ⟨w.heap.size, 0, none⟩ = some (.slice pa p.pits.length pc) ∧ w'.cell? ⟨w.heap.size, 1, none⟩ = some (.slice sa p.stores.length sc) ∧ w'.cell? ⟨w.heap.size, 2, none⟩ = some (.int .i64 p.player))
    (first | (with_reducible exact hSB) | (with_reducible exact hSA) | (refine ⟨?_, ?_, ?_⟩ <;> simp [go_sem, P.cells]; done) | (refine ⟨?_, ?_, ?_⟩ <;> simp [go_sem, hSB.1, hSB.2.1, hSB.2.2]; done) | go_keep)
    (first
      | (go_at_call 110; have tk := hb1; refine (copyNumbers_c sa sc p.stores _ (h.stores.below (below_next (below_alloc2 _ _ _).drew hb1) (Nat.le_refl _)) m2).mono ?_; rintro e w2 ⟨sa', sc', rfl, ho2, hb2⟩; have hSB : w2.cell? ⟨w.heap.size, 0, none⟩ = some (.slice pa p.pits.length pc) ∧ w2.cell? ⟨w.heap.size, 1, none⟩ = some (.slice sa p.stores.length sc) ∧ w2.cell? ⟨w.heap.size, 2, none⟩ = some (.int .i64 p.player) := ⟨((bcell hb2).1 _ _ hz1).trans hSA.1, ((bcell hb2).1 _ _ hz1).trans hSA.2.1, ((bcell hb2).1 _ _ hz1).trans hSA.2.2⟩; have z0 := ((bcell hb2).1 _ _ hz1b).trans y0; have z1 := ((bcell hb2).1 _ _ hz1b).trans y1; have z2 := ((bcell hb2).1 _ _ hz1b).trans y2; have zf := fun o => ((bcell hb2).2 _ o hz1b).trans (yf o))
      | (go_at_call 110; refine (copyNumbers_c pa pc p.pits _ (h.pits.below (below_alloc2 _ _ _).drew (Nat.le_refl _)) m1).mono ?_; rintro e w1 ⟨pa', pc', rfl, ho1, hb1⟩; have hz1 : w.heap.size < w1.heap.size := (Nat.lt_of_lt_of_le (by simp; try omega) hb1.size); have hz1b : w.heap.size + 1 < w1.heap.size := (Nat.lt_of_lt_of_le (by simp; try omega) hb1.size); have hSA : w1.cell? ⟨w.heap.size, 0, none⟩ = some (.slice pa p.pits.length pc) ∧ w1.cell? ⟨w.heap.size, 1, none⟩ = some (.slice sa p.stores.length sc) ∧ w1.cell? ⟨w.heap.size, 2, none⟩ = some (.int .i64 p.player) := ⟨((bcell hb1).1 w.heap.size 0 (by (simp <;> omega))).trans (by simp [go_sem, P.cells]), ((bcell hb1).1 w.heap.size 1 (by (simp <;> omega))).trans (by simp [go_sem, P.cells]), ((bcell hb1).1 w.heap.size 2 (by (simp <;> omega))).trans (by simp [go_sem, P.cells])⟩; have y0 : w1.cell? ⟨w.heap.size + 1, 0, none⟩ = some (.slice none 0 0) := ((bcell hb1).1 (w.heap.size + 1) 0 (by (simp <;> omega))).trans (by simp [go_sem]); have y1 : w1.cell? ⟨w.heap.size + 1, 1, none⟩ = some (.slice none 0 0) := ((bcell hb1).1 (w.heap.size + 1) 1 (by (simp <;> omega))).trans (by simp [go_sem]); have y2 : w1.cell? ⟨w.heap.size + 1, 2, none⟩ = some (.int .i64 0) := ((bcell hb1).1 (w.heap.size + 1) 2 (by (simp <;> omega))).trans (by simp [go_sem]); have yf : ∀ o, w1.frozen? ⟨w.heap.size + 1, o, none⟩ = false := fun o => ((bcell hb1).2 (w.heap.size + 1) o (by (simp <;> omega))).trans (by simp [go_sem])))
  have B1 : Below w.heap.size w w1 := below_next (below_alloc2 _ _ _).drew hb1
  have B2 := Lib.hid (below_next B1 hb2)
  simp only [World.size_alloc, World.size_drew] at ho1
  have HA := Lib.hid (apart_of ho1 ho2 (Nat.le_refl _))
  have O1 := Lib.hid (own_below ho1 hb2 (Nat.le_refl _))
  have O2 := Lib.hid ho2
  clear ho1 ho2 hb1 hb2 hSA y0 y1 y2 yf B1
  go_wp2
  refine bodyPost_ret (v := p.val pa' pc' sa' sc') (by simp [results, Try.results61, go_sem, z0, z1, z2, P.val, P.cells]) rfl ?_
  refine ⟨pa', pc', sa', sc', rfl, ⟨?_, ?_, HA.out⟩, ?_⟩
  · have k0 := O1.out
    refine ownsRow_le (base := w.heap.size + 1 + 1) ?_ (by omega)
    repeat (first | (with_reducible exact k0) | ((with_reducible refine ownsRow_setCell_below ?_ ?_ _); rotate_left; (simp <;> omega)))
  · have k0 := O2.out
    refine ownsRow_le (base := w1.heap.size) ?_ (by omega)
    repeat (first | (with_reducible exact k0) | ((with_reducible refine ownsRow_setCell_below ?_ ?_ _); rotate_left; (simp <;> omega)))
  · have k0 := B2.out
    repeat (first | (with_reducible exact k0) | ((with_reducible refine Below.setCell ?_ ?_ _); rotate_left; (simp <;> omega)))


/-! ### New2: the sowing of a position: the contract. Holds for every argument, under the premises that it states. -/
/-- a new sowing -/
def SowRes (w : World) (r : R) (p : P) (pn : Nat) (e : Ending) (w' : World) : Prop := ∃ sb pg pc sg sc ta tc,
  e = .returned (.pointer (some ⟨sb, 0, none⟩)) ∧ SnI w.heap.size w' sb 10 pg pc sg sc p.pits p.stores ∧ Fld w' sb 10 0 0 ∧ SwF w' sb r pn ta 0 tc ∧ OwnI w' w.heap.size ta tc [] ∧ TAp ta 0 tc sb pg sg ∧ Below w.heap.size w w'
set_option maxRecDepth 100000 in
set_option maxHeartbeats 4000000 in
theorem newSowing_c (r : R) (p : P) (pn : Nat) (hpn : p.player = pn) (pa sa : Option Addr) (pc sc : Nat) (w : World) (h : PRow w p pa sa) (m1 : p.pits.length ≤ 16777216) (m2 : p.stores.length ≤ 16777216) (l1 : 0 < p.pits.length) (l2 : 0 < p.stores.length) :
    Calls Try.prog 120 #[r.val, p.val pa pc sa sc] w (SowRes w r p pn) := by
  have HPN := Lib.hid hpn
  clear hpn
  have F0 := ((Fr.start w).alloc r.cells 33).alloc (p.cells pa pc sa sc) 30
  go_enter Try.func120, Try.ntmps120
  go_wp2_with fail
  refine (copied_c p pa sa pc sc _ (h.below F0.below (Nat.le_refl _)) m1 m2).mono ?_
  rintro e w1 ⟨pa', pc', sa', sc', rfl, ho, hb1⟩
  have F1 := F0.step hb1
  obtain ⟨c0, c1, c2, c3, c4, c5, c6, c7, c8⟩ := R.boxc (F1.at 1 rfl)
  have d2 := (F1.at 0 rfl) 2 (.int .i64 p.player) rfl
  have zA : w.heap.size < w1.heap.size := F1.le 1 rfl
  have zB : w.heap.size + 1 < w1.heap.size := by have := F1.le 0 rfl; simp at this; omega
  simp only [World.size_alloc] at d2 ho
  obtain ⟨pg, rfl, hp1, hp2⟩ := own_lt_n ho.pits l1
  obtain ⟨sg, rfl, hs1, hs2⟩ := own_lt_n ho.stores l2
  have hne : ¬ pg = sg := fun e => by rcases ho.apart with h | h <;> simp [Value.ownBlock] at h; exact h e
  have HO := Lib.hid ho
  have HB := Lib.hid F1.below
  clear hb1 F0 F1 ho
  go_wp2
  go_ret
  have B3 : Below w1.heap.size w1 (((w1.alloc (.cells #[.slice (some ⟨pg, 0, none⟩) p.pits.length pc', .slice (some ⟨sg, 0, none⟩) p.stores.length sc', .int .i64 p.player] 30)).alloc (.cells #[] 2)).alloc (.cells #[.int .i64 r.pits, .int .i64 r.seeds, .bool r.stores, .bool r.skip, .bool r.relay, .bool r.feed, .bool r.again, .int .i64 r.capture, .int .i64 r.slam, .int .i64 p.player, .slice (some ⟨pg, 0, none⟩) p.pits.length pc', .slice (some ⟨sg, 0, none⟩) p.stores.length sc', .int .i64 0, .int .i64 0, .slice (some ⟨w1.heap.size + 1, 0, none⟩) 0 0] 162)) :=
    ((below_alloc1 _ _).alloc (by simp) _).alloc (by simp <;> omega) _
  have BX : ∀ (j : Nat) (v : Value), (#[.int .i64 r.pits, .int .i64 r.seeds, .bool r.stores, .bool r.skip, .bool r.relay, .bool r.feed, .bool r.again, .int .i64 r.capture, .int .i64 r.slam, .int .i64 p.player, .slice (some ⟨pg, 0, none⟩) p.pits.length pc', .slice (some ⟨sg, 0, none⟩) p.stores.length sc', .int .i64 0, .int .i64 0, .slice (some ⟨w1.heap.size + 1, 0, none⟩) 0 0] : Array Value).toList[j]? = some v →
      (((w1.alloc (.cells #[.slice (some ⟨pg, 0, none⟩) p.pits.length pc', .slice (some ⟨sg, 0, none⟩) p.stores.length sc', .int .i64 p.player] 30)).alloc (.cells #[] 2)).alloc (.cells #[.int .i64 r.pits, .int .i64 r.seeds, .bool r.stores, .bool r.skip, .bool r.relay, .bool r.feed, .bool r.again, .int .i64 r.capture, .int .i64 r.slam, .int .i64 p.player, .slice (some ⟨pg, 0, none⟩) p.pits.length pc', .slice (some ⟨sg, 0, none⟩) p.stores.length sc', .int .i64 0, .int .i64 0, .slice (some ⟨w1.heap.size + 1, 0, none⟩) 0 0] 162)).cell? ⟨w1.heap.size + 1 + 1, j, none⟩ = some v := by
    intro j v hv
    have := (made (w := (w1.alloc (.cells #[.slice (some ⟨pg, 0, none⟩) p.pits.length pc', .slice (some ⟨sg, 0, none⟩) p.stores.length sc', .int .i64 p.player] 30)).alloc (.cells #[] 2)) (e := 162) rfl).2.1 j v hv
    simpa only [World.size_alloc] using this
  refine ⟨w1.heap.size + 1 + 1, pg, pc', sg, sc', some ⟨w1.heap.size + 1, 0, none⟩, 0, rfl, ⟨BX 10 _ rfl, BX 11 _ rfl, ?_, ?_, ?_, hne, by omega, by omega⟩, ⟨BX 12 _ rfl, BX 13 _ rfl, ?_⟩, ⟨⟨BX 0 _ rfl, BX 1 _ rfl, BX 2 _ rfl, BX 3 _ rfl, BX 4 _ rfl, BX 5 _ rfl, BX 6 _ rfl, BX 7 _ rfl, BX 8 _ rfl⟩, ?_, BX 14 _ rfl⟩, ?_, ?_, HB.out.trans (B3.mono (by omega))⟩
  · exact ownsRow_le (own_below HO.out.pits B3 (Nat.le_refl _)) (by omega)
  · exact ownsRow_le (own_below HO.out.stores B3 (Nat.le_refl _)) (by omega)
  · omega
  · intro o; simp [go_sem]
  · rw [← HPN.out]; exact BX 9 _ rfl
  · have := World.ownsRow_lit (base := w.heap.size) (e := 2) (size := 1) (w1.alloc (.cells #[.slice (some ⟨pg, 0, none⟩) p.pits.length pc', .slice (some ⟨sg, 0, none⟩) p.stores.length sc', .int .i64 p.player] 30)) #[] 0 (by rw [World.size_alloc]; omega) (Nat.zero_le _) rfl
    have h2 := own_below this (below_alloc1 _ (.cells #[.int .i64 r.pits, .int .i64 r.seeds, .bool r.stores, .bool r.skip, .bool r.relay, .bool r.feed, .bool r.again, .int .i64 r.capture, .int .i64 r.slam, .int .i64 p.player, .slice (some ⟨pg, 0, none⟩) p.pits.length pc', .slice (some ⟨sg, 0, none⟩) p.stores.length sc', .int .i64 0, .int .i64 0, .slice (some ⟨w1.heap.size + 1, 0, none⟩) 0 0] 162)) (Nat.le_refl _)
    simpa [OwnI] using h2
  · intro k hk; simp [Value.ownBlock] at hk; omega


end Go.Proofs.Ytbjgigdkbjabaaa
