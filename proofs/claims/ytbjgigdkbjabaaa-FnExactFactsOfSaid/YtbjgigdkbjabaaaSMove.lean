/- SMove: a move is sown, with its code: the reference's function. The contract holds for every argument, under the premises that it states. -/
import Derived.Test.YtbjgigdkbjabaaaSMov
namespace Go.Proofs.Ytbjgigdkbjabaaa
set_option linter.unusedSimpArgs false
set_option linter.unusedVariables false
set_option linter.unnecessarySimpa false
open Go.RowKit Go.ChangeShapes Go.WideShapes Go.ChangeAt Go.Joins

/-- what a move leads to, with its code -/
def SowK (w : World) (code : Int) (o : Option (Lap × Int)) (e : Ending) (w' : World) : Prop :=
  (∃ c, ¬ c = 0 ∧ (c = code ∨ code = 0 ∧ o = none ∧ c = 10) ∧ e = .returned (.tuple #[snZ, .slice none 0 0, .int .i64 c]) ∧ Below w.heap.size w w') ∨
  ∃ L n pa pc sa sc ta tc, code = 0 ∧ o = some (L, n) ∧ e = .returned (.tuple #[snV L.pits L.stores L.last n pa pc sa sc, .slice ta L.path.length tc, .int .i64 0]) ∧
    POwn w' w.heap.size ⟨L.pits, L.stores, 0⟩ pa pc sa sc ∧ OwnI w' w.heap.size ta tc L.path ∧ Below w.heap.size w w'
theorem SowV.form {w w' : World} {o : Option (Lap × Int)} {e : Ending} (h : SowV w o e w') : ∃ P S last laps pa pc sa sc ta tn tc ok, e = .returned (.tuple #[snV P S last laps pa pc sa sc, .slice ta tn tc, .bool ok]) ∧ Below w.heap.size w w' ∧
    ((o = none ∧ ok = false) ∨ ∃ L n, o = some (L, n) ∧ ok = true ∧ P = L.pits ∧ S = L.stores ∧ last = L.last ∧ laps = n ∧ tn = L.path.length ∧ POwn w' w.heap.size ⟨L.pits, L.stores, 0⟩ pa pc sa sc ∧ OwnI w' w.heap.size ta tc L.path) := by
  rcases h with ⟨ho, rfl, hb⟩ | ⟨L, n, pa, pc, sa, sc, ta, tc, ho, rfl, hp, ht, hb⟩
  · exact ⟨[], [], 0, 0, none, 0, none, 0, none, 0, 0, false, rfl, hb, .inl ⟨ho, rfl⟩⟩
  · exact ⟨_, _, _, _, _, _, _, _, _, _, _, true, rfl, hb, .inr ⟨L, n, ho, rfl, rfl, rfl, rfl, rfl, rfl, hp, ht⟩⟩
set_option maxRecDepth 100000 in
set_option maxHeartbeats 8000000 in
theorem l05Move_c (rb ro pb po : Nat) (r : R) (p : P) (move : Int) (pa sa : Option Addr) (pc sc : Nat) (w : World) (hr : R.At w rb ro r) (hp : P.At w pb po p pa pc sa sc) (h : PRow w p pa sa) (m1 : p.pits.length ≤ 16777216) (m2 : p.stores.length ≤ 16777216) :
    Calls Try.prog 115 #[.pointer (some ⟨rb, ro, none⟩), .pointer (some ⟨pb, po, none⟩), .int .i64 move] w (SowK w (codeP r p move) (sowP r p.player (p.player * r.pits + move) p.pits p.stores)) := by
  have hrb : rb < w.heap.size := World.block_lt_of_cell? w _ hr.c0
  have hpb : pb < w.heap.size := World.block_lt_of_cell? w _ hp.c0
  have HR := Lib.hid hr
  have HP := Lib.hid hp
  have c0 := hr.c0
  obtain ⟨d0, d1, d2⟩ := hp
  clear hr
  obtain ⟨cd, hcd⟩ : ∃ cd, cd = codeP r p move := ⟨_, rfl⟩
  have HCD := Lib.hid hcd
  rw [← hcd]
  have HSC := Lib.hid (l05Code_c rb ro pb po r p move pa sa pc sc _ (HR.out.below (below_alloc1 w (.cells #[.slice none 0 0, .slice none 0 0, .int .i64 0, .int .i64 0] 148)) hrb) (HP.out.below (below_alloc1 w _) hpb) (h.below (below_alloc1 w _) (Nat.le_refl _)) m1 m2)
  rw [← hcd] at HSC
  clear hcd
  go_enter Try.func115, Try.ntmps115
  go_wp2_with fail
  refine HSC.out.mono ?_
  rintro e w1 ⟨rfl, m, hw1⟩
  have hB1 : Below w.heap.size w w1 := by rw [hw1]; exact (below_alloc1 _ _).trans (below_draws _ _ m)
  have x0 : w1.cell? ⟨w.heap.size, 0, none⟩ = some (.slice none 0 0) := by rw [hw1]; simp
  have x1 : w1.cell? ⟨w.heap.size, 1, none⟩ = some (.slice none 0 0) := by rw [hw1]; simp
  have x2 : w1.cell? ⟨w.heap.size, 2, none⟩ = some (.int .i64 0) := by rw [hw1]; simp
  have x3 : w1.cell? ⟨w.heap.size, 3, none⟩ = some (.int .i64 0) := by rw [hw1]; simp
  have xf : ∀ o, w1.frozen? ⟨w.heap.size, o, none⟩ = false := by intro o; rw [hw1]; simp
  have xz : w.heap.size < w1.heap.size := by rw [hw1]; simp
  clear hw1
  by_cases hc0 : cd = 0
  case neg =>
    have hc1 : (cd != 0) = true := by simpa using hc0
    have HC0 := Lib.hid hc0
    clear hc0
    go_wp2_with fail
    refine bodyPost_ret (v := .tuple #[snZ, .slice none 0 0, .int .i64 cd]) (by simp [results, Try.results115, go_sem, snZ, x0, x1, x2, x3, xf]) rfl (.inl ⟨cd, HC0.out, .inl rfl, rfl, ?_⟩)
    repeat (first | (with_reducible exact hB1) | ((with_reducible refine Below.setCell ?_ ?_ _); rotate_left; (simp <;> omega)))
  subst hc0
  obtain ⟨hok, mv, hnz⟩ := codeP_zero HCD.out.symm
  obtain ⟨hbd, ⟨pn, hpn, hpn1⟩, t, hB, ht0, ht1⟩ := P.ok_parts hok
  obtain ⟨fn, hfn, hfl⟩ := from_ok hok mv
  have hlo := hbd.lo
  have hhi := hbd.hi
  have hm0 : 0 ≤ p.player * r.pits := Int.mul_nonneg (by omega) (by omega)
  have hm8 : p.player * r.pits ≤ 8 := by
    have := Int.mul_le_mul (a := p.player) (b := r.pits) (c := 1) (d := 8) (by omega) hhi (by omega) (by omega)
    omega
  obtain ⟨mv0, mv1⟩ := mv
  obtain ⟨o, ho⟩ : ∃ o, o = sowP r p.player (p.player * r.pits + move) p.pits p.stores := ⟨_, rfl⟩
  have HOO := Lib.hid ho
  have HSW : Hid (∀ W, Below w.heap.size w W → Calls Try.prog 154 #[.pointer (some ⟨rb, ro, none⟩), .pointer (some ⟨pb, po, none⟩), .int .i64 (p.player * r.pits + move)] W (SowV W o)) := fun W hW => by
    have := l05Sow_c rb ro pb po r p pn fn t pa sa pc sc W (HR.out.below hW hrb) (HP.out.below hW hpb) (h.below hW (Nat.le_refl _)) hbd hpn hpn1 hB (by omega) hfl
    rw [ho, hfn, hpn]; exact this
  have hw1' : IntKind.i64.wrap (p.player * r.pits) = p.player * r.pits := IntWalk.i64_in _ (by omega)
  have hw2' : IntKind.i64.wrap (p.player * r.pits + move) = p.player * r.pits + move := IntWalk.i64_in _ (by omega)
  have HWR : IntKind.i64.wrap (IntKind.i64.wrap (p.player * r.pits) + move) = p.player * r.pits + move := by rw [hw1', hw2']
  rw [← HWR] at HSW
  clear hw1' hw2' HWR
  have HB := Lib.hid hB
  clear hB ho hfn hpn HSC hnz hok HCD d0 d1
  go_wp2_with fail
  go_region_held3 (fun w' => w'.cell? ⟨rb, ro, none⟩ = some (.int .i64 r.pits) ∧ w'.cell? ⟨pb, po + 2, none⟩ = some (.int .i64 p.player))
    ((refine ⟨(Below.cell (B := w.heap.size) ?_ (show (Addr.mk rb ro none).block < _ from hrb)).trans c0, (Below.cell (B := w.heap.size) ?_ (show (Addr.mk pb (po + 2) none).block < _ from hpb)).trans d2⟩ <;> first | (with_reducible exact B2) | (with_reducible exact B2.alloc B2.size _) | (with_reducible exact hB1.drew) | (with_reducible exact (hB1.alloc hB1.size _).drew) | (repeat (first | (with_reducible exact B2) | ((with_reducible refine Below.setCell ?_ ?_ _); rotate_left; (simp <;> omega))))))
    (first
      | (go_at_call 154; first | (refine (HSW.out _ hB1.drew).mono ?_) | (refine (HSW.out _ (hB1.alloc hB1.size _).drew).mono ?_)
         rintro e w2 hsv
         obtain ⟨P2, S2, last2, laps2, pa2, pc2, sa2, sc2, ta2, tn2, tc2, ok2, rfl, hb2, hsv⟩ := hsv.form
         obtain ⟨hc2, hf2⟩ := bcell hb2
         have z2 := hb2.size
         try simp only [World.size_alloc, World.size_drew] at hc2 hf2 z2
         have HSV := Lib.hid hsv
         clear hsv
         have B2 : Below w.heap.size w w2 := (by first | exact hB1.drew.trans (hb2.mono hB1.size) | exact (hB1.alloc hB1.size _).drew.trans (hb2.mono (by simp; omega)))
         have z2a : w.heap.size < w2.heap.size := (by omega)
         have y0 : w2.cell? ⟨w.heap.size, 0, none⟩ = some (.slice none 0 0) := (hc2 _ _ (by omega)).trans (by first | exact x0 | exact ((below_alloc1 w1 _).cell (show (Addr.mk w.heap.size 0 none).block < _ from xz)).trans x0)
         have y1 : w2.cell? ⟨w.heap.size, 1, none⟩ = some (.slice none 0 0) := (hc2 _ _ (by omega)).trans (by first | exact x1 | exact ((below_alloc1 w1 _).cell (show (Addr.mk w.heap.size 1 none).block < _ from xz)).trans x1)
         have y2 : w2.cell? ⟨w.heap.size, 2, none⟩ = some (.int .i64 0) := (hc2 _ _ (by omega)).trans (by first | exact x2 | exact ((below_alloc1 w1 _).cell (show (Addr.mk w.heap.size 2 none).block < _ from xz)).trans x2)
         have y3 : w2.cell? ⟨w.heap.size, 3, none⟩ = some (.int .i64 0) := (hc2 _ _ (by omega)).trans (by first | exact x3 | exact ((below_alloc1 w1 _).cell (show (Addr.mk w.heap.size 3 none).block < _ from xz)).trans x3)
         have yf : ∀ o, w2.frozen? ⟨w.heap.size, o, none⟩ = false := (fun o => (hf2 _ o (by omega)).trans (by first | exact xf o | exact ((bcell (below_alloc1 w1 _)).2 _ o xz).trans (xf o)))
         try have z2b : w1.heap.size < w2.heap.size := (by omega)))
  all_goals
    rcases HSV.out with ⟨ho, rfl⟩ | ⟨L, n, ho, rfl, rfl, rfl, rfl, rfl, rfl, hp2, ht2⟩
    · have HN := Lib.hid (HOO.out.symm.trans ho)
      clear ho HSV
      go_wp2_with fail
      refine bodyPost_ret (v := .tuple #[snZ, .slice none 0 0, .int .i64 10]) (by simp [results, Try.results115, go_sem, snZ, y0, y1, y2, y3, yf, hc2, hf2, xz, z2a]) rfl (.inl ⟨10, by decide, .inr ⟨rfl, HN.out, rfl⟩, rfl, ?_⟩)
      repeat (first | (with_reducible exact B2) | (with_reducible exact B2.alloc B2.size _) | ((with_reducible refine Below.setCell ?_ ?_ _); rotate_left; (simp <;> omega)) | ((with_reducible refine Below.alloc ?_ ?_ _); rotate_left; (simp <;> omega)))
    · have HN := Lib.hid (⟨HOO.out.symm.trans ho, hp2, ht2⟩ : _ ∧ _ ∧ _)
      have z0 : w.heap.size < w1.heap.size := xz
      clear ho HSV hp2 ht2
      go_wp2_with fail
      refine bodyPost_ret (v := .tuple #[snV L.pits L.stores L.last laps2 pa2 pc2 sa2 sc2, .slice ta2 L.path.length tc2, .int .i64 0]) (by simp [results, Try.results115, go_sem, snV, snC, y0, y1, y2, y3, yf, hc2, hf2, xz, z2a]) rfl (.inr ⟨L, laps2, pa2, pc2, sa2, sc2, ta2, tc2, rfl, HN.out.1, rfl, ⟨?_, ?_, HN.out.2.1.apart⟩, ?_, ?_⟩)
      · have k0 := HN.out.2.1.pits
        simp only [World.size_alloc, World.size_drew] at k0
        first
          | (refine ownsRow_le (base := w1.heap.size) ?_ (by omega); (repeat (first | (with_reducible exact k0) | (with_reducible refine World.ownsRow.alloc ?_ _) | ((with_reducible refine ownsRow_setCell_below ?_ ?_ _); rotate_left; (simp <;> omega)))); done)
          | (refine ownsRow_le (base := w1.heap.size + 1) ?_ (by omega); (repeat (first | (with_reducible exact k0) | (with_reducible refine World.ownsRow.alloc ?_ _) | ((with_reducible refine ownsRow_setCell_below ?_ ?_ _); rotate_left; (simp <;> omega)))); done)
      · have k0 := HN.out.2.1.stores
        simp only [World.size_alloc, World.size_drew] at k0
        first
          | (refine ownsRow_le (base := w1.heap.size) ?_ (by omega); (repeat (first | (with_reducible exact k0) | (with_reducible refine World.ownsRow.alloc ?_ _) | ((with_reducible refine ownsRow_setCell_below ?_ ?_ _); rotate_left; (simp <;> omega)))); done)
          | (refine ownsRow_le (base := w1.heap.size + 1) ?_ (by omega); (repeat (first | (with_reducible exact k0) | (with_reducible refine World.ownsRow.alloc ?_ _) | ((with_reducible refine ownsRow_setCell_below ?_ ?_ _); rotate_left; (simp <;> omega)))); done)
      · have k0 := HN.out.2.2
        unfold OwnI at k0 ⊢
        simp only [World.size_alloc, World.size_drew] at k0
        first
          | (refine ownsRow_le (base := w1.heap.size) ?_ (by omega); (repeat (first | (with_reducible exact k0) | (with_reducible refine World.ownsRow.alloc ?_ _) | ((with_reducible refine ownsRow_setCell_below ?_ ?_ _); rotate_left; (simp <;> omega)))); done)
          | (refine ownsRow_le (base := w1.heap.size + 1) ?_ (by omega); (repeat (first | (with_reducible exact k0) | (with_reducible refine World.ownsRow.alloc ?_ _) | ((with_reducible refine ownsRow_setCell_below ?_ ?_ _); rotate_left; (simp <;> omega)))); done)
      · repeat (first | (with_reducible exact B2) | (with_reducible exact B2.alloc B2.size _) | ((with_reducible refine Below.setCell ?_ ?_ _); rotate_left; (simp <;> omega)) | ((with_reducible refine Below.alloc ?_ ?_ _); rotate_left; (simp <;> omega)))

end Go.Proofs.Ytbjgigdkbjabaaa
