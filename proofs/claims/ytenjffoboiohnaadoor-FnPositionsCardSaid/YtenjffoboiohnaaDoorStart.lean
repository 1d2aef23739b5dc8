/- Start: the first position: both sides' functions. Each contract holds for every argument, under the premises that it states. -/
import Derived.Test.YtenjffoboiohnaaDoorSets
import Derived.Test.YtenjffoboiohnaaDoorNew
import Derived.Test.YtenjffoboiohnaaDoorFrame
import Derived.Test.YtenjffoboiohnaaDoorHeld
import Derived.Deep.AppendLies
import Derived.Deep.CutRange
import Derived.StillTailTactics
namespace Go.Proofs.YtenjffoboiohnaaDoor
set_option linter.unusedSimpArgs false
set_option linter.unusedVariables false
set_option linter.unnecessarySimpa false
open Go.RowKit Go.ChangeShapes Go.WideShapes Go.ChangeAt Go.Joins

theorem POwn.le' {w : World} {base base' : Nat} {p : P} {pa sa : Option Addr} {pc sc : Nat} (h : POwn w base p pa pc sa sc) (hb : base' ≤ base) : POwn w base' p pa pc sa sc := ⟨ownsRow_le h.pits hb, ownsRow_le h.stores hb, h.apart⟩
def startP (r : R) : P := ⟨List.replicate (2 * r.pits).toNat r.seeds, [0, 0], 0⟩
/-- a round: j pits are laid -/
structure StS (w wr : World) (S j : Nat) (sd : Int) (pa : Option Addr) (pc : Nat) : Prop where
  box : Bx (S + 1 + 1) [.slice pa j pc, .slice (some ⟨S + 1, 0, none⟩) 2 2, .int .i64 0] wr
  own : wr.ownsRow (S + 1 + 1 + 1) 2 1 (.slice pa j pc) j ((List.replicate j sd).map (Value.int .i64))
  sto : wr.ownsRow (S + 1) 2 1 (.slice (some ⟨S + 1, 0, none⟩) 2 2) 2 [.int .i64 0, .int .i64 0]
  res : Bx S [.slice none 0 0, .slice none 0 0, .int .i64 0] wr
  below : Below w.heap.size w wr
theorem StS.grow {w wr wn : World} {S j : Nat} {sd : Int} {pa : Option Addr} {pc : Nat} (h : StS w wr S j sd pa pc) (hb : Below wr.heap.size wr wn) : StS w wn S j sd pa pc := by
  have := h.box.lt (by simp)
  exact ⟨h.box.below hb this, own_below h.own hb (Nat.le_refl _), own_below h.sto hb (Nat.le_refl _), h.res.below hb (by omega), below_next h.below hb⟩
theorem StS.next {w wr wn : World} {S j g cap : Nat} {sd : Int} {pa : Option Addr} {pc : Nat} (h : StS w wr S j sd pa pc) (hS : w.heap.size ≤ S)
    (hb : wr.grownBy wn (Value.slice pa j pc).ownBlock) (ho : wn.ownsRow (S + 1 + 1 + 1) 2 1 (.slice (some ⟨g, 0, none⟩) (j + 1) cap) (j + 1) ((List.replicate j sd).map (Value.int .i64) ++ [.int .i64 sd])) :
    StS w (wn.setCell ⟨S + 1 + 1, 0, none⟩ (.slice (some ⟨g, 0, none⟩) (j + 1) cap)) S (j + 1) sd (some ⟨g, 0, none⟩) cap := by
  have hlt := h.box.lt (by simp)
  have hC : Chg (S + 1 + 1 + 1) wr.heap.size wr wn := Chg.ofGrown hb (fun k hk => ⟨(h.own.lt k hk).1, (h.own.lt k hk).2⟩)
  have hz := hC.size
  refine ⟨(h.box.chg hC hlt (.inl (by omega))).set (o := 0) (by simp) _, ?_, ?_, (h.res.chg hC (by omega) (.inl (by omega))).other _ (by simp; omega) _, ?_⟩
  · refine ownsRow_setCell_below ?_ (by simp) _
    rw [show List.replicate (j + 1) sd = List.replicate j sd ++ [sd] from List.replicate_succ', List.map_append]
    exact ho
  · refine ownsRow_setCell_other ?_ (by simp [Value.ownBlock]) _
    exact own_stab (lo := S + 1) (hi := S + 1 + 1) (Nat.le_refl _) h.sto (fun k hk => by simp [Value.ownBlock] at hk; omega) (fun k k1 k2 => hC.block k (by omega) (.inl (by omega)))
  · exact (hC.below h.below (by omega)).setCell (by simp; omega) _

set_option maxRecDepth 100000 in
set_option maxHeartbeats 8000000 in
theorem l04Start_c (rb ro : Nat) (r : R) (w : World) (hat : R.At w rb ro r) (hp0 : 0 ≤ r.pits) (hp : r.pits ≤ 100) :
    Calls Tryd.prog 36 #[.pointer (some ⟨rb, ro, none⟩)] w (PosRes w (startP r)) := by
  obtain ⟨i0, hi, hz0, hz1, hz2⟩ := info_parts infoI
  have hrb : rb < w.heap.size := World.block_lt_of_cell? w _ hat.c0
  have HA := Lib.hid hat
  go_enter Tryd.func36, Tryd.ntmps36
  go_wp2_with fail
  go_loopw [4] (fun i wr => ∃ (j : Nat) (pa : Option Addr) (pc : Nat), i = .int .i64 j ∧ j ≤ (2 * r.pits).toNat ∧ StS w wr w.heap.size j r.seeds pa pc) (fun i _ => (2 * r.pits).toNat - (intOf i).toNat)
  case atStart =>
    refine ⟨0, none, 0, rfl, Nat.zero_le _, ?_, World.ownsRow_nil _ _ _ _, ?_, ?_, ?_⟩
    · exact Bx.alloc _ _ _ (by simp)
    · have h9 := World.ownsRow.alloc (World.ownsRow_lit (base := w.heap.size + 1) (e := 2) (size := 1) (w.alloc (.cells #[.slice none 0 0, .slice none 0 0, .int .i64 0] 28)) #[.int .i64 0, .int .i64 0] 2 (by simp) (by unfold maxLen; omega) rfl) (.cells #[.slice none 0 0, .slice (some ⟨w.heap.size + 1, 0, none⟩) 2 2, .int .i64 0] 28)
      simp only [World.size_alloc] at h9
      exact h9
    · exact ((Bx.alloc w _ _ rfl).allocO (by simp) _ _).allocO (by simp; omega) _ _
    · exact below_alloc3 _ _ _ _
  case round =>
    obtain ⟨j, pa, pc, rfl, hj, hs⟩ := hrel
    have HS := Lib.hid hs
    have hzb : w.heap.size + 1 + 1 < wr.heap.size := hs.box.lt (by simp)
    have hA : R.At wr rb ro r := HA.out.below hs.below hrb
    obtain ⟨c0, c1, _⟩ := hA
    have k0 := hs.box.box 0 _ rfl
    have k1 := hs.box.box 1 _ rfl
    have k2 := hs.box.box 2 _ rfl
    have kf := hs.box.free
    clear hs
    by_cases hlt : (j : Int) < 2 * r.pits
    · have HK : Hid (∀ W : World, (∀ b o, b < wr.heap.size → W.cell? ⟨b, o, none⟩ = wr.cell? ⟨b, o, none⟩) → (W.cell? ⟨rb, ro + 1, none⟩ = some (.int .i64 r.seeds) ∧ W.cell? ⟨w.heap.size + 1 + 1, 0, none⟩ = some (.slice pa j pc))) := fun W H => ⟨(H _ _ (by omega)).trans c1, (H _ _ hzb).trans k0⟩
      have HS1 : Hid (StS w ((wr.alloc (.cells #[.int .i64 r.seeds] 2)).drew) w.heap.size j r.seeds pa pc) := HS.out.grow (below_alloc1 _ _).drew
      have hrw : rb < wr.heap.size := by omega
      have hrn : ¬ rb = w.heap.size + 1 + 1 := by omega
      have HKE : Hid ((wr.alloc (.cells #[.int .i64 r.seeds] 2)).drew.cell? ⟨rb, ro + 1, none⟩ = some (.int .i64 r.seeds)) := (World.cell?_alloc_lt _ _ _ (by simpa using hrw)).trans c1
      clear HK
      go_upto_region 5 with fail
      refine heldH (S := fun W => W.cell? ⟨rb, ro + 1, none⟩ = some (.int .i64 r.seeds)) (n := 10) (listed := #[false, false, false, false, false, false, false, false, false, false]) (by kernel_rfl) (by rfl) (by rfl) ?_ (fun hHeld => ?_)
      (focus ((try dsimp only); (first | done | ((first | (with_reducible exact HKE.out) | exact n9 | exact c1 | (rw [cell_other hrn]; exact n9)); done))))
      (refine takeH (i := 0) (v := ?_) (by decide +kernel) (by decide +kernel) (by kernel_rfl) (by rfl) (by exact fun _ _ _ h => h) (by rfl) ?_ (by assumption) ?_); rotate_left; (focus (intro w hSw; (try dsimp only at hSw); go_simp; (try with_reducible rfl); done)); (try simp only [Act.put, List.setIfInBounds_toArray, List.set_cons_zero, List.set_cons_succ])
      (refine takeH (i := 2) (v := ?_) (by decide +kernel) (by decide +kernel) (by kernel_rfl) (by rfl) (by exact fun _ _ _ h => h) (by rfl) ?_ (by assumption) ?_); rotate_left; (focus (intro w hSw; (try dsimp only at hSw); go_simp; (try with_reducible rfl); done)); (try simp only [Act.put, List.setIfInBounds_toArray, List.set_cons_zero, List.set_cons_succ])
      (refine takeH (i := 3) (v := ?_) (by decide +kernel) (by decide +kernel) (by kernel_rfl) (by rfl) (by exact fun _ _ _ h => h) (by rfl) ?_ (by assumption) ?_); rotate_left; (focus (intro w hSw; (try dsimp only at hSw); go_simp; (try with_reducible rfl); done)); (try simp only [Act.put, List.setIfInBounds_toArray, List.set_cons_zero, List.set_cons_succ])
      (refine takeH (i := 4) (v := ?_) (by decide +kernel) (by decide +kernel) (by kernel_rfl) (by rfl) (by exact fun _ _ _ h => h) (by rfl) ?_ (by assumption) ?_); rotate_left; (focus (intro w hSw; (try dsimp only at hSw); go_simp; (try with_reducible rfl); done)); (try simp only [Act.put, List.setIfInBounds_toArray, List.set_cons_zero, List.set_cons_succ])
      (refine takeH (i := 5) (v := ?_) (by decide +kernel) (by decide +kernel) (by kernel_rfl) (by rfl) (by exact fun _ _ _ h => h) (by rfl) ?_ (by assumption) ?_); rotate_left; (focus (intro w hSw; (try dsimp only at hSw); go_simp; (try with_reducible rfl); done)); (try simp only [Act.put, List.setIfInBounds_toArray, List.set_cons_zero, List.set_cons_succ])
      refine bothH (i := 1) (j := 6) (by decide +kernel) (by rfl) (by rfl) (by rfl) (by rfl) (fun K hK => ?_) (fun K hK => ?_)
      (first | ((refine wp_append_lies _ _ _ 26 rfl (w.heap.size + 1 + 1 + 1) 2 i0 (.int .i64 0) 1 8 Tryd.underlying26 hi hz0 hz1 hz2 rfl (by decide) (.slice pa j pc) j ((List.replicate j r.seeds).map (Value.int .i64)) rfl HS1.out.own ⟨wr.heap.size, 0, none⟩ 1 1 [.int .i64 r.seeds] rfl rfl (by intro q u hu; match q, hu with | 0, hu => (simp at hu; subst hu; simp [go_sem])) (by intro u hu; simp at hu; subst hu; rfl) (by omega) (by unfold maxLen; omega) (by omega) (by simp; omega) _ rfl ?_); (intro g cap wn ho hg _ hgl); (have HN := Lib.hid (HS1.out.next (Nat.le_refl _) hg ho)); (have z0 := HS1.out.box.lt (by simp)); (have zn : w.heap.size + 1 + 1 < wn.heap.size := Nat.lt_of_lt_of_le z0 hg.size); (have hC : Chg (w.heap.size + 1 + 1 + 1) (wr.alloc (.cells #[.int .i64 r.seeds] 2)).drew.heap.size _ wn := Chg.ofGrown hg (fun k hk => ⟨(HS1.out.own.lt k hk).1, (HS1.out.own.lt k hk).2⟩)); (have hx := HS1.out.box.chg hC z0 (.inl (by omega))); (have n0 := hx.box 0 _ rfl); (have nf := hx.free); (have n9 : wn.cell? ⟨rb, ro + 1, none⟩ = some (.int .i64 r.seeds) := (World.cell?_of_block (w := (wr.alloc (.cells #[.int .i64 r.seeds] 2)).drew) (hC.block rb (by simp; omega) (.inl (by omega)))).trans (HKE.out)); clear ho hg hx hC) | (go_simp; (skip)))
      refine hK.out _ _ ?_ (fun hHeld' => ?_)
      (focus ((try dsimp only); (first | done | ((first | (with_reducible exact HKE.out) | exact n9 | exact c1 | (rw [cell_other hrn]; exact n9)); done))))
      clear hK K hHeld
      have hHeld := hHeld'
      clear hHeld'
      (try simp only [Act.put, List.setIfInBounds_toArray, List.set_cons_zero, List.set_cons_succ])
      refine nextH (i := 6) (by decide +kernel) (by rfl) (by rfl) (fun K hK => ?_)
      (first | ((refine wp_append_lies _ _ _ 26 rfl (w.heap.size + 1 + 1 + 1) 2 i0 (.int .i64 0) 1 8 Tryd.underlying26 hi hz0 hz1 hz2 rfl (by decide) (.slice pa j pc) j ((List.replicate j r.seeds).map (Value.int .i64)) rfl HS1.out.own ⟨wr.heap.size, 0, none⟩ 1 1 [.int .i64 r.seeds] rfl rfl (by intro q u hu; match q, hu with | 0, hu => (simp at hu; subst hu; simp [go_sem])) (by intro u hu; simp at hu; subst hu; rfl) (by omega) (by unfold maxLen; omega) (by omega) (by simp; omega) _ rfl ?_); (intro g cap wn ho hg _ hgl); (have HN := Lib.hid (HS1.out.next (Nat.le_refl _) hg ho)); (have z0 := HS1.out.box.lt (by simp)); (have zn : w.heap.size + 1 + 1 < wn.heap.size := Nat.lt_of_lt_of_le z0 hg.size); (have hC : Chg (w.heap.size + 1 + 1 + 1) (wr.alloc (.cells #[.int .i64 r.seeds] 2)).drew.heap.size _ wn := Chg.ofGrown hg (fun k hk => ⟨(HS1.out.own.lt k hk).1, (HS1.out.own.lt k hk).2⟩)); (have hx := HS1.out.box.chg hC z0 (.inl (by omega))); (have n0 := hx.box 0 _ rfl); (have nf := hx.free); (have n9 : wn.cell? ⟨rb, ro + 1, none⟩ = some (.int .i64 r.seeds) := (World.cell?_of_block (w := (wr.alloc (.cells #[.int .i64 r.seeds] 2)).drew) (hC.block rb (by simp; omega) (.inl (by omega)))).trans (HKE.out)); clear ho hg hx hC) | (go_simp; (skip)))
      refine hK.out _ _ ?_ (fun hHeld' => ?_)
      (focus ((try dsimp only); (first | done | ((first | (with_reducible exact HKE.out) | exact n9 | exact c1 | (rw [cell_other hrn]; exact n9)); done))))
      clear hK K hHeld
      have hHeld := hHeld'
      clear hHeld'
      (try simp only [Act.put, List.setIfInBounds_toArray, List.set_cons_zero, List.set_cons_succ])
      refine nextH (i := 7) (by decide +kernel) (by rfl) (by rfl) (fun K hK => ?_)
      (first | ((refine wp_append_lies _ _ _ 26 rfl (w.heap.size + 1 + 1 + 1) 2 i0 (.int .i64 0) 1 8 Tryd.underlying26 hi hz0 hz1 hz2 rfl (by decide) (.slice pa j pc) j ((List.replicate j r.seeds).map (Value.int .i64)) rfl HS1.out.own ⟨wr.heap.size, 0, none⟩ 1 1 [.int .i64 r.seeds] rfl rfl (by intro q u hu; match q, hu with | 0, hu => (simp at hu; subst hu; simp [go_sem])) (by intro u hu; simp at hu; subst hu; rfl) (by omega) (by unfold maxLen; omega) (by omega) (by simp; omega) _ rfl ?_); (intro g cap wn ho hg _ hgl); (have HN := Lib.hid (HS1.out.next (Nat.le_refl _) hg ho)); (have z0 := HS1.out.box.lt (by simp)); (have zn : w.heap.size + 1 + 1 < wn.heap.size := Nat.lt_of_lt_of_le z0 hg.size); (have hC : Chg (w.heap.size + 1 + 1 + 1) (wr.alloc (.cells #[.int .i64 r.seeds] 2)).drew.heap.size _ wn := Chg.ofGrown hg (fun k hk => ⟨(HS1.out.own.lt k hk).1, (HS1.out.own.lt k hk).2⟩)); (have hx := HS1.out.box.chg hC z0 (.inl (by omega))); (have n0 := hx.box 0 _ rfl); (have nf := hx.free); (have n9 : wn.cell? ⟨rb, ro + 1, none⟩ = some (.int .i64 r.seeds) := (World.cell?_of_block (w := (wr.alloc (.cells #[.int .i64 r.seeds] 2)).drew) (hC.block rb (by simp; omega) (.inl (by omega)))).trans (HKE.out)); clear ho hg hx hC) | (go_simp; (skip)))
      refine hK.out _ _ ?_ (fun hHeld' => ?_)
      (focus ((try dsimp only); (first | done | ((first | (with_reducible exact HKE.out) | exact n9 | exact c1 | (rw [cell_other hrn]; exact n9)); done))))
      clear hK K hHeld
      have hHeld := hHeld'
      clear hHeld'
      (try simp only [Act.put, List.setIfInBounds_toArray, List.set_cons_zero, List.set_cons_succ])
      (refine takeH (i := 8) (v := ?_) (by decide +kernel) (by decide +kernel) (by kernel_rfl) (by rfl) (by exact fun _ _ _ h => h) (by rfl) ?_ (by assumption) ?_); rotate_left; (focus (intro w hSw; (try dsimp only at hSw); go_simp; (try with_reducible rfl); done)); (try simp only [Act.put, List.setIfInBounds_toArray, List.set_cons_zero, List.set_cons_succ])
      refine nextH (i := 9) (by decide +kernel) (by rfl) (by rfl) (fun K hK => ?_)
      (first | ((refine wp_append_lies _ _ _ 26 rfl (w.heap.size + 1 + 1 + 1) 2 i0 (.int .i64 0) 1 8 Tryd.underlying26 hi hz0 hz1 hz2 rfl (by decide) (.slice pa j pc) j ((List.replicate j r.seeds).map (Value.int .i64)) rfl HS1.out.own ⟨wr.heap.size, 0, none⟩ 1 1 [.int .i64 r.seeds] rfl rfl (by intro q u hu; match q, hu with | 0, hu => (simp at hu; subst hu; simp [go_sem])) (by intro u hu; simp at hu; subst hu; rfl) (by omega) (by unfold maxLen; omega) (by omega) (by simp; omega) _ rfl ?_); (intro g cap wn ho hg _ hgl); (have HN := Lib.hid (HS1.out.next (Nat.le_refl _) hg ho)); (have z0 := HS1.out.box.lt (by simp)); (have zn : w.heap.size + 1 + 1 < wn.heap.size := Nat.lt_of_lt_of_le z0 hg.size); (have hC : Chg (w.heap.size + 1 + 1 + 1) (wr.alloc (.cells #[.int .i64 r.seeds] 2)).drew.heap.size _ wn := Chg.ofGrown hg (fun k hk => ⟨(HS1.out.own.lt k hk).1, (HS1.out.own.lt k hk).2⟩)); (have hx := HS1.out.box.chg hC z0 (.inl (by omega))); (have n0 := hx.box 0 _ rfl); (have nf := hx.free); (have n9 : wn.cell? ⟨rb, ro + 1, none⟩ = some (.int .i64 r.seeds) := (World.cell?_of_block (w := (wr.alloc (.cells #[.int .i64 r.seeds] 2)).drew) (hC.block rb (by simp; omega) (.inl (by omega)))).trans (HKE.out)); clear ho hg hx hC) | (go_simp; (skip)))
      refine hK.out _ _ ?_ (fun hHeld' => ?_)
      (focus ((try dsimp only); (first | done | ((first | (with_reducible exact HKE.out) | exact n9 | exact c1 | (rw [cell_other hrn]; exact n9)); done))))
      clear hK K hHeld
      have hHeld := hHeld'
      clear hHeld'
      (try simp only [Act.put, List.setIfInBounds_toArray, List.set_cons_zero, List.set_cons_succ])
      refine wpAnyH_done (by decide +kernel) ?_ _
      rotate_left
      (first | ((refine wp_append_lies _ _ _ 26 rfl (w.heap.size + 1 + 1 + 1) 2 i0 (.int .i64 0) 1 8 Tryd.underlying26 hi hz0 hz1 hz2 rfl (by decide) (.slice pa j pc) j ((List.replicate j r.seeds).map (Value.int .i64)) rfl HS1.out.own ⟨wr.heap.size, 0, none⟩ 1 1 [.int .i64 r.seeds] rfl rfl (by intro q u hu; match q, hu with | 0, hu => (simp at hu; subst hu; simp [go_sem])) (by intro u hu; simp at hu; subst hu; rfl) (by omega) (by unfold maxLen; omega) (by omega) (by simp; omega) _ rfl ?_); (intro g cap wn ho hg _ hgl); (have HN := Lib.hid (HS1.out.next (Nat.le_refl _) hg ho)); (have z0 := HS1.out.box.lt (by simp)); (have zn : w.heap.size + 1 + 1 < wn.heap.size := Nat.lt_of_lt_of_le z0 hg.size); (have hC : Chg (w.heap.size + 1 + 1 + 1) (wr.alloc (.cells #[.int .i64 r.seeds] 2)).drew.heap.size _ wn := Chg.ofGrown hg (fun k hk => ⟨(HS1.out.own.lt k hk).1, (HS1.out.own.lt k hk).2⟩)); (have hx := HS1.out.box.chg hC z0 (.inl (by omega))); (have n0 := hx.box 0 _ rfl); (have nf := hx.free); (have n9 : wn.cell? ⟨rb, ro + 1, none⟩ = some (.int .i64 r.seeds) := (World.cell?_of_block (w := (wr.alloc (.cells #[.int .i64 r.seeds] 2)).drew) (hC.block rb (by simp; omega) (.inl (by omega)))).trans (HKE.out)); clear ho hg hx hC) | (go_simp; (skip)))
      refine hK.out _ _ ?_ (fun hHeld' => ?_)
      (focus ((try dsimp only); (first | done | ((first | (with_reducible exact HKE.out) | exact n9 | exact c1 | (rw [cell_other hrn]; exact n9)); done))))
      clear hK K hHeld
      have hHeld := hHeld'
      clear hHeld'
      (try simp only [Act.put, List.setIfInBounds_toArray, List.set_cons_zero, List.set_cons_succ])
      refine nextH (i := 1) (by decide +kernel) (by rfl) (by rfl) (fun K hK => ?_)
      (first | ((refine wp_append_lies _ _ _ 26 rfl (w.heap.size + 1 + 1 + 1) 2 i0 (.int .i64 0) 1 8 Tryd.underlying26 hi hz0 hz1 hz2 rfl (by decide) (.slice pa j pc) j ((List.replicate j r.seeds).map (Value.int .i64)) rfl HS1.out.own ⟨wr.heap.size, 0, none⟩ 1 1 [.int .i64 r.seeds] rfl rfl (by intro q u hu; match q, hu with | 0, hu => (simp at hu; subst hu; simp [go_sem])) (by intro u hu; simp at hu; subst hu; rfl) (by omega) (by unfold maxLen; omega) (by omega) (by simp; omega) _ rfl ?_); (intro g cap wn ho hg _ hgl); (have HN := Lib.hid (HS1.out.next (Nat.le_refl _) hg ho)); (have z0 := HS1.out.box.lt (by simp)); (have zn : w.heap.size + 1 + 1 < wn.heap.size := Nat.lt_of_lt_of_le z0 hg.size); (have hC : Chg (w.heap.size + 1 + 1 + 1) (wr.alloc (.cells #[.int .i64 r.seeds] 2)).drew.heap.size _ wn := Chg.ofGrown hg (fun k hk => ⟨(HS1.out.own.lt k hk).1, (HS1.out.own.lt k hk).2⟩)); (have hx := HS1.out.box.chg hC z0 (.inl (by omega))); (have n0 := hx.box 0 _ rfl); (have nf := hx.free); (have n9 : wn.cell? ⟨rb, ro + 1, none⟩ = some (.int .i64 r.seeds) := (World.cell?_of_block (w := (wr.alloc (.cells #[.int .i64 r.seeds] 2)).drew) (hC.block rb (by simp; omega) (.inl (by omega)))).trans (HKE.out)); clear ho hg hx hC) | (go_simp; (skip)))
      refine hK.out _ _ ?_ (fun hHeld' => ?_)
      (focus ((try dsimp only); (first | done | ((first | (with_reducible exact HKE.out) | exact n9 | exact c1 | (rw [cell_other hrn]; exact n9)); done))))
      clear hK K hHeld
      have hHeld := hHeld'
      clear hHeld'
      (try simp only [Act.put, List.setIfInBounds_toArray, List.set_cons_zero, List.set_cons_succ])
      refine nextH (i := 7) (by decide +kernel) (by rfl) (by rfl) (fun K hK => ?_)
      (first | ((refine wp_append_lies _ _ _ 26 rfl (w.heap.size + 1 + 1 + 1) 2 i0 (.int .i64 0) 1 8 Tryd.underlying26 hi hz0 hz1 hz2 rfl (by decide) (.slice pa j pc) j ((List.replicate j r.seeds).map (Value.int .i64)) rfl HS1.out.own ⟨wr.heap.size, 0, none⟩ 1 1 [.int .i64 r.seeds] rfl rfl (by intro q u hu; match q, hu with | 0, hu => (simp at hu; subst hu; simp [go_sem])) (by intro u hu; simp at hu; subst hu; rfl) (by omega) (by unfold maxLen; omega) (by omega) (by simp; omega) _ rfl ?_); (intro g cap wn ho hg _ hgl); (have HN := Lib.hid (HS1.out.next (Nat.le_refl _) hg ho)); (have z0 := HS1.out.box.lt (by simp)); (have zn : w.heap.size + 1 + 1 < wn.heap.size := Nat.lt_of_lt_of_le z0 hg.size); (have hC : Chg (w.heap.size + 1 + 1 + 1) (wr.alloc (.cells #[.int .i64 r.seeds] 2)).drew.heap.size _ wn := Chg.ofGrown hg (fun k hk => ⟨(HS1.out.own.lt k hk).1, (HS1.out.own.lt k hk).2⟩)); (have hx := HS1.out.box.chg hC z0 (.inl (by omega))); (have n0 := hx.box 0 _ rfl); (have nf := hx.free); (have n9 : wn.cell? ⟨rb, ro + 1, none⟩ = some (.int .i64 r.seeds) := (World.cell?_of_block (w := (wr.alloc (.cells #[.int .i64 r.seeds] 2)).drew) (hC.block rb (by simp; omega) (.inl (by omega)))).trans (HKE.out)); clear ho hg hx hC) | (go_simp; (skip)))
      refine hK.out _ _ ?_ (fun hHeld' => ?_)
      (focus ((try dsimp only); (first | done | ((first | (with_reducible exact HKE.out) | exact n9 | exact c1 | (rw [cell_other hrn]; exact n9)); done))))
      clear hK K hHeld
      have hHeld := hHeld'
      clear hHeld'
      (try simp only [Act.put, List.setIfInBounds_toArray, List.set_cons_zero, List.set_cons_succ])
      (refine takeH (i := 8) (v := ?_) (by decide +kernel) (by decide +kernel) (by kernel_rfl) (by rfl) (by exact fun _ _ _ h => h) (by rfl) ?_ (by assumption) ?_); rotate_left; (focus (intro w hSw; (try dsimp only at hSw); go_simp; (try with_reducible rfl); done)); (try simp only [Act.put, List.setIfInBounds_toArray, List.set_cons_zero, List.set_cons_succ])
      refine nextH (i := 9) (by decide +kernel) (by rfl) (by rfl) (fun K hK => ?_)
      (first | ((refine wp_append_lies _ _ _ 26 rfl (w.heap.size + 1 + 1 + 1) 2 i0 (.int .i64 0) 1 8 Tryd.underlying26 hi hz0 hz1 hz2 rfl (by decide) (.slice pa j pc) j ((List.replicate j r.seeds).map (Value.int .i64)) rfl HS1.out.own ⟨wr.heap.size, 0, none⟩ 1 1 [.int .i64 r.seeds] rfl rfl (by intro q u hu; match q, hu with | 0, hu => (simp at hu; subst hu; simp [go_sem])) (by intro u hu; simp at hu; subst hu; rfl) (by omega) (by unfold maxLen; omega) (by omega) (by simp; omega) _ rfl ?_); (intro g cap wn ho hg _ hgl); (have HN := Lib.hid (HS1.out.next (Nat.le_refl _) hg ho)); (have z0 := HS1.out.box.lt (by simp)); (have zn : w.heap.size + 1 + 1 < wn.heap.size := Nat.lt_of_lt_of_le z0 hg.size); (have hC : Chg (w.heap.size + 1 + 1 + 1) (wr.alloc (.cells #[.int .i64 r.seeds] 2)).drew.heap.size _ wn := Chg.ofGrown hg (fun k hk => ⟨(HS1.out.own.lt k hk).1, (HS1.out.own.lt k hk).2⟩)); (have hx := HS1.out.box.chg hC z0 (.inl (by omega))); (have n0 := hx.box 0 _ rfl); (have nf := hx.free); (have n9 : wn.cell? ⟨rb, ro + 1, none⟩ = some (.int .i64 r.seeds) := (World.cell?_of_block (w := (wr.alloc (.cells #[.int .i64 r.seeds] 2)).drew) (hC.block rb (by simp; omega) (.inl (by omega)))).trans (HKE.out)); clear ho hg hx hC) | (go_simp; (skip)))
      refine hK.out _ _ ?_ (fun hHeld' => ?_)
      (focus ((try dsimp only); (first | done | ((first | (with_reducible exact HKE.out) | exact n9 | exact c1 | (rw [cell_other hrn]; exact n9)); done))))
      clear hK K hHeld
      have hHeld := hHeld'
      clear hHeld'
      (try simp only [Act.put, List.setIfInBounds_toArray, List.set_cons_zero, List.set_cons_succ])
      refine wpAnyH_done (by decide +kernel) ?_ _
      all_goals go_wp2_with fail
      all_goals go_roundw
      case rel => exact ⟨j + 1, _, _, by go_num, by omega, HN.out⟩
      case measure => simp [intOf]; omega
      case rel => exact ⟨j + 1, _, _, by go_num, by omega, HN.out⟩
      case measure => simp [intOf]; omega
    · obtain rfl : j = (2 * r.pits).toNat := by omega
      have HO := Lib.hid HS.out.own
      have HT := Lib.hid HS.out.sto
      have B1 := HS.out.below
      have r0 := HS.out.res.box 0 _ rfl
      have r1 := HS.out.res.box 1 _ rfl
      have r2 := HS.out.res.box 2 _ rfl
      have rf := HS.out.res.free
      have zr := HS.out.res.lt (by simp)
      go_wp2
      refine bodyPost_ret (v := (startP r).val pa pc (some ⟨w.heap.size + 1, 0, none⟩) 2) (by simp [results, Tryd.results36, go_sem, k0, k1, k2, r0, r1, r2, rf, zr, P.val, P.cells, startP]) rfl ⟨pa, pc, some ⟨w.heap.size + 1, 0, none⟩, 2, rfl, ⟨?_, ?_, ?_⟩, ?_⟩
      · have k9 := HO.out
        have e : (startP r).pits.length = (2 * r.pits).toNat := by simp [startP]
        rw [e]
        refine ownsRow_le (base := w.heap.size + 1 + 1 + 1) ?_ (by omega)
        show World.ownsRow _ _ _ _ (.slice pa (2 * r.pits).toNat pc) _ ((List.replicate (2 * r.pits).toNat r.seeds).map (Value.int .i64))
        repeat (first | (with_reducible exact k9) | ((with_reducible refine ownsRow_setCell_below ?_ ?_ _); rotate_left; (simp <;> omega)) | (with_reducible refine World.ownsRow.drew ?_))
      · have k9 := HT.out
        show World.ownsRow _ w.heap.size 2 1 (.slice (some ⟨w.heap.size + 1, 0, none⟩) 2 2) 2 [.int .i64 0, .int .i64 0]
        refine ownsRow_le (base := w.heap.size + 1) ?_ (by omega)
        repeat (first | (with_reducible exact k9) | ((with_reducible refine ownsRow_setCell_below ?_ ?_ _); rotate_left; (simp <;> omega)) | (with_reducible refine World.ownsRow.drew ?_))
      · have e : (startP r).pits.length = (2 * r.pits).toNat := by simp [startP]
        rw [e]
        cases ho : (Value.slice pa (2 * r.pits).toNat pc).ownBlock with
        | none => exact .inl rfl
        | some k =>
          refine .inr (fun e => ?_)
          have := (HO.out.lt k ho).1
          simp [Value.ownBlock] at e
          omega
      · repeat (first | (with_reducible exact B1) | ((with_reducible refine Below.setCell ?_ ?_ _); rotate_left; (simp <;> omega)) | (with_reducible refine Below.drew ?_))

end Go.Proofs.YtenjffoboiohnaaDoor
