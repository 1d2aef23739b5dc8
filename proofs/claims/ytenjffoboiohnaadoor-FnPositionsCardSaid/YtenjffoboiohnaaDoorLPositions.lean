/- The law FnPositions returns true for every argument, and every argument reads afterwards as before, where the listed package-level variables hold what the program's text lays. -/
import Derived.Test.YtenjffoboiohnaaDoorPosV
import Derived.Test.YtenjffoboiohnaaDoorDoorX
import Derived.Test.YtenjffoboiohnaaDoorCards
import Derived.Test.YtenjffoboiohnaaDoorTie
import Derived.SevenTiedAt
import Derived.Deep.CutRange
namespace Go.Proofs.YtenjffoboiohnaaDoor.lPositions
set_option linter.unusedSimpArgs false
set_option linter.unusedVariables false
set_option linter.unnecessarySimpa false
open Go.RowKit Go.ChangeShapes Go.WideShapes Go.ChangeAt Go.Joins
open Go.ChangeMaps (open_string)

/-- a position and the number 0, out of a call -/
def PaRes (w : World) (p : P) (e : Ending) (w' : World) : Prop := ∃ A : A2, e = .returned (.tuple #[p.val A.pa A.pc A.sa A.sc, .int .i64 0]) ∧ POwn w' w.heap.size p A.pa A.pc A.sa A.sc ∧ Below w.heap.size w w'
/-- a position read, in memory -/
structure RdSt (w wx : World) (p : P) (nb : Nat) (A : A2) : Prop where
  bl : Below w.heap.size w wx
  d0 : wx.cell? ⟨nb, 0, none⟩ = some (.slice A.pa p.pits.length A.pc)
  d1 : wx.cell? ⟨nb, 1, none⟩ = some (.slice A.sa p.stores.length A.sc)
  d2 : wx.cell? ⟨nb, 2, none⟩ = some (.int .i64 p.player)
  row : PRow wx p A.pa A.sa
set_option maxRecDepth 100000 in
set_option maxHeartbeats 64000000 in
theorem walk (ca : Option Addr) (cc : Nat) (bs : List Int) (w : World) (hm1 : bs.length ≤ maxLen) (hb : bs.length ≤ 4096 → ByteP w.heap.size ca bs w) (ht : TabB w) :
    Calls Tryd.prog 3 #[.slice ca bs.length cc] w fun e w' => e = .returned (.bool true) ∧ Below w.heap.size w w' := by
  by_cases hl : 3000 < (bs.length : Int)
  · have HL : (decide (3000 < (bs.length : Int)) || decide (3000 < ((0 : Nat) : Int))) = true := by simpa using hl
    clear hb hl ht
    go_enter Tryd.func3, Tryd.ntmps3
    go_wp2_with fail
    refine (a2Long_c ca none _ 0 cc 0 _ hm1 (Nat.zero_le _)).mono ?_
    rintro e w1 ⟨rfl, rfl⟩
    rw [HL]
    go_wp2
    go_ret
    exact ⟨rfl, Below.refl _ _⟩
  have HB := Lib.hid (hb (by omega))
  have HL : (decide (3000 < (bs.length : Int)) || decide (3000 < ((0 : Nat) : Int))) = false := by simp; omega
  have HT : Hid (∀ W, Below w.heap.size w W → TabB W) := fun W hW W' hW' => ht W' (below_next hW hW')
  clear hb hl ht
  go_enter Tryd.func3, Tryd.ntmps3
  go_wp2_with fail
  refine (a2Long_c ca none _ 0 cc 0 _ hm1 (Nat.zero_le _)).mono ?_
  rintro e w1 ⟨rfl, rfl⟩
  rw [HL]
  clear hm1 HL
  go_wp2_with fail
  refine (A2Position_c ca cc bs _ HB.out).mono ?_
  rintro e w2 ⟨r, p, A, rfl, hdr, hdp, ho2, hb2⟩
  have hok := hdp.ok hdr
  have hlp := P.ok_lens hok
  have hcp := own_caps ho2.pits
  obtain ⟨t, ht⟩ : ∃ t, t = turnP r p := ⟨_, rfl⟩
  obtain ⟨y, hy⟩ : ∃ y, y = viewP p := ⟨_, rfl⟩
  have htok := turn_ok hok
  have hlt := P.ok_lens htok
  obtain ⟨hv1, hv2⟩ := view_turn hok
  have htt := turn_turn hok
  have hly := viewP_len hok
  obtain ⟨hs1, hs2, hs3, hs4⟩ := side_parts hok
  rw [← ht] at htok hlt hv1 htt hs2
  rw [← hy] at hv1 hv2 hly
  obtain ⟨N, hN⟩ : ∃ N, N = sumO p.pits := ⟨_, rfl⟩
  obtain ⟨a, ha⟩ : ∃ a, a = sideP r p.pits 0 := ⟨_, rfl⟩
  obtain ⟨b, hbb⟩ : ∃ b, b = sideP r p.pits 1 := ⟨_, rfl⟩
  have HP : Hid (∀ W, Below w2.heap.size w2 W → PRow W p A.pa A.sa) := fun W hW => ho2.row.below hW (Nat.le_refl _)
  have HC1 : Hid (∀ W, PRow W p A.pa A.sa → Calls Tryd.prog 6 #[r.val, p.val A.pa A.pc A.sa A.sc] W (PaRes W t)) := fun W hW => by
    have h := iTurnPosition_c r p A.pa A.sa A.pc A.sc W hW (by omega) (by omega) hcp.1 hcp.2
    unfold tofP at h
    rw [if_pos hok, ← ht] at h
    exact h
  have HC2 : Hid (∀ W ua uc va vc, PRow W t ua va → Calls Tryd.prog 7 #[r.val, t.val ua uc va vc] W fun e w' => e = .returned (.bool true) ∧ Below W.heap.size W w') := fun W ua uc va vc hW => by
    have h := sValidPosition_c r t ua va uc vc W hW (by omega) (by omega)
    rw [htok] at h
    exact h
  have HC3 : Hid (∀ W ua uc va vc, PRow W t ua va → t.pits.length ≤ uc → uc ≤ maxLen → Calls Tryd.prog 6 #[r.val, t.val ua uc va vc] W (PaRes W p)) := fun W ua uc va vc hW h1 h2 => by
    have h := iTurnPosition_c r t ua va uc vc W hW (by omega) (by omega) h1 h2
    unfold tofP at h
    rw [if_pos htok, htt] at h
    exact h
  have HC4 : Hid (∀ W, PRow W p A.pa A.sa → Calls Tryd.prog 8 #[r.val, p.val A.pa A.pc A.sa A.sc] W (PaRes W y)) := fun W hW => by
    have h := iViewOf_c r p A.pa A.sa A.pc A.sc W hW (by omega) (by omega) hcp.1 hcp.2
    unfold vofP at h
    rw [if_pos hok, ← hy] at h
    exact h
  have HC5 : Hid (∀ W ua uc va vc, PRow W t ua va → t.pits.length ≤ uc → uc ≤ maxLen → Calls Tryd.prog 8 #[r.val, t.val ua uc va vc] W (PaRes W y)) := fun W ua uc va vc hW h1 h2 => by
    have h := iViewOf_c r t ua va uc vc W hW (by omega) (by omega) h1 h2
    unfold vofP at h
    rw [if_pos htok, hv1] at h
    exact h
  have HC6 : Hid (∀ W, PRow W p A.pa A.sa → Calls Tryd.prog 9 #[r.val, p.val A.pa A.pc A.sa A.sc] W fun e w' => e = .returned (.tuple #[.int .i64 N, .int .i64 0]) ∧ Below W.heap.size W w') := fun W hW => by
    rw [hN]
    exact SeedsOn_c r p hok A.pa A.sa A.pc A.sc W hW (by omega) (by omega)
  have HC7 : Hid (∀ W, PRow W p A.pa A.sa → Calls Tryd.prog 10 #[r.val, p.val A.pa A.pc A.sa A.sc, .int .i64 0] W fun e w' => e = .returned (.tuple #[.int .i64 a, .int .i64 0]) ∧ Below W.heap.size W w') := fun W hW => by
    rw [ha]
    exact iSideSeeds_c r p hok 0 (by omega) A.pa A.sa A.pc A.sc W hW (by omega) (by omega) hcp.1 hcp.2
  have HC8 : Hid (∀ W, PRow W p A.pa A.sa → Calls Tryd.prog 10 #[r.val, p.val A.pa A.pc A.sa A.sc, .int .i64 1] W fun e w' => e = .returned (.tuple #[.int .i64 b, .int .i64 0]) ∧ Below W.heap.size W w') := fun W hW => by
    rw [hbb]
    exact iSideSeeds_c r p hok 1 (by omega) A.pa A.sa A.pc A.sc W hW (by omega) (by omega) hcp.1 hcp.2
  have HC9 : Hid (∀ W ua uc va vc, PRow W t ua va → t.pits.length ≤ uc → uc ≤ maxLen → Calls Tryd.prog 10 #[r.val, t.val ua uc va vc, .int .i64 0] W fun e w' => e = .returned (.tuple #[.int .i64 b, .int .i64 0]) ∧ Below W.heap.size W w') := fun W ua uc va vc hW h1 h2 => by
    rw [hbb, ← hs2]
    exact iSideSeeds_c r t htok 0 (by omega) ua va uc vc W hW (by omega) (by omega) h1 h2
  obtain ⟨xs, ys, s0, s1, e1, e2, e3, e4, e5, e6⟩ := turn_parts hok
  obtain ⟨T, hT⟩ : ∃ T, T = posT xs ys [s0, s1] p.player := ⟨_, rfl⟩
  have hbd := (R.ok_bd hdr.1).hi
  have HCA : Hid (∀ W, PRow W p A.pa A.sa → Calls Tryd.prog 12 #[r.val, p.val A.pa A.pc A.sa A.sc] W fun e w' => e = .returned (.string ⟨T.toArray⟩) ∧ Below W.heap.size W w') := fun W hW => by
    have hok2 : P.ok ⟨xs ++ ys, [s0, s1], p.player⟩ r = true := by rw [← e1]; exact hok
    have hW2 : PRow W ⟨xs ++ ys, [s0, s1], p.player⟩ A.pa A.sa := by rw [← e1]; exact hW
    have h := PositionText_c r (xs ++ ys) xs ys s0 s1 p.player rfl hok2 e2 e3 e4 (by omega) A.pa A.sa A.pc A.sc W hW2 (by have := congrArg P.pits e1; dsimp only at this; rw [← this]; exact hcp.1) hcp.2
    rw [← e1] at h
    rw [hT]
    exact h
  have HCB : Hid (∀ W, TabB W → Calls Tryd.prog 11 #[r.val, .string ⟨T.toArray⟩] W (PbRes W p)) := fun W hW => by
    have hok2 : P.ok ⟨xs ++ ys, [s0, s1], p.player⟩ r = true := by rw [← e1]; exact hok
    have h := iReadPosition_c r (xs ++ ys) xs ys s0 s1 p.player rfl hok2 e2 e3 e4 (by omega) W hW
    rw [← e1] at h
    rw [hT]
    exact h
  have HN : Hid (wrap64 (a + b) = N) := by
    unfold Hid
    rw [hN, ← hs1, ← ha, ← hbb]
    unfold wrap64
    omega
  have HLEN : Hid ((p.pits.length ≤ 16 ∧ p.stores.length ≤ 16) ∧ (t.pits.length ≤ 16 ∧ t.stores.length ≤ 16) ∧ (y.pits.length ≤ 16 ∧ y.stores.length ≤ 16)) := ⟨hlp, hlt, hly⟩
  have HY0 : Hid (y.player = 0) := hv2
  have HW : Hid (∀ W, Below w2.heap.size w2 W → Below w.heap.size w W) := fun W hW => below_next hb2 hW
  have F2 := ((Fr.start w2).alloc r.cells 25).alloc (p.cells A.pa A.pc A.sa A.sc) 28
  clear hdr hdp hok htok hlp hcp ht hy hlt hv1 hv2 htt hly hs1 hs2 hs3 hs4 hN ha hbb e1 e2 e3 e4 e5 e6 hT hbd hb2 ho2 HB
  obtain ⟨c0, c1, c2, c3, c4, c5, c6, c7, c8⟩ := R.boxc (F2.at 1 rfl)
  obtain ⟨d0, d1, d2⟩ := P.boxc (F2.at 0 rfl)
  go_wp2_with fail
  refine (HC1.out _ (HP.out _ F2.below)).mono ?_
  rintro e w3 ⟨⟨ua, uc, va, vc⟩, rfl, ho3, hb3⟩
  have H3 : Hid (Below w2.heap.size w2 w3) := below_next F2.below hb3
  have HT3 : Hid (∀ W, Below w3.heap.size w3 W → PRow W t ua va) := fun W hW => ho3.row.below hW (Nat.le_refl _)
  have HT3c := Lib.hid (own_caps ho3.pits)
  have G3 := F2.step hb3
  have F3 := G3.alloc (t.cells ua uc va vc) 28
  clear hb3 ho3 F2 HC1 c0 c1 c2 c3 c4 c5 c6 c7 c8 d0 d1 d2
  obtain ⟨c0, c1, c2, c3, c4, c5, c6, c7, c8⟩ := R.boxc (G3.at 1 rfl)
  have zc : w2.heap.size < w3.heap.size := by have := G3.le 1 rfl; (try simp only [World.size_alloc] at this); omega
  obtain ⟨d0, d1, d2⟩ := P.boxc (G3.at 0 rfl)
  simp only [World.size_alloc] at d0 d1 d2
  have zd : w2.heap.size + 1 < w3.heap.size := by have := G3.le 0 rfl; (try simp only [World.size_alloc] at this); omega
  clear G3
  go_wp2_with fail
  refine (HC2.out _ _ _ _ _ (HT3.out _ (below_alloc1 _ _))).mono ?_
  rintro e w4 ⟨rfl, hb4⟩
  have F4 := F3.step hb4
  have H34 : Hid (Below w3.heap.size w3 w4) := below_next (below_alloc1 _ _) hb4
  clear hb4 F3 HC2 c0 c1 c2 c3 c4 c5 c6 c7 c8 d0 d1 d2 zc zd
  obtain ⟨c0, c1, c2, c3, c4, c5, c6, c7, c8⟩ := R.boxc (F4.at 2 rfl)
  obtain ⟨d0, d1, d2⟩ := P.boxc (F4.at 1 rfl)
  simp only [World.size_alloc] at d0 d1 d2
  obtain ⟨e0, e1, e2⟩ := P.boxc (F4.at 0 rfl)
  go_wp2_with fail
  refine (HC3.out _ _ _ _ _ (HT3.out _ H34.out) HT3c.out.1 HT3c.out.2).mono ?_
  rintro e w5 ⟨⟨qa, qc, qsa, qsc⟩, rfl, ho5, hb5⟩
  have G5 := F4.step hb5
  have F5 := G5.alloc (p.cells qa qc qsa qsc) 28
  have H35 : Hid (Below w3.heap.size w3 w5) := below_next H34.out hb5
  have HB5 : Hid (∀ W, Below w5.heap.size w5 W → PRow W p qa qsa) := fun W hW => ho5.row.below hW (Nat.le_refl _)
  clear hb5 ho5 F4 HC3 H34 c0 c1 c2 c3 c4 c5 c6 c7 c8 d0 d1 d2 e0 e1 e2
  obtain ⟨c0, c1, c2, c3, c4, c5, c6, c7, c8⟩ := R.boxc (G5.at 2 rfl)
  have zc : w2.heap.size < w5.heap.size := by have := G5.le 2 rfl; (try simp only [World.size_alloc] at this); omega
  obtain ⟨d0, d1, d2⟩ := P.boxc (G5.at 1 rfl)
  simp only [World.size_alloc] at d0 d1 d2
  have zd : w2.heap.size + 1 < w5.heap.size := by have := G5.le 1 rfl; (try simp only [World.size_alloc] at this); omega
  obtain ⟨e0, e1, e2⟩ := P.boxc (G5.at 0 rfl)
  have ze : w3.heap.size < w5.heap.size := by have := G5.le 0 rfl; (try simp only [World.size_alloc] at this); omega
  clear G5
  go_wp2_with fail
  refine (HC4.out _ (HP.out _ F5.below)).mono ?_
  rintro e w6 ⟨⟨v1a, v1c, v1sa, v1sc⟩, rfl, ho6, hb6⟩
  have H56 : Hid (Below w5.heap.size w5 w6) := below_next (below_alloc1 _ _) hb6
  have G6 := F5.step hb6
  have F6 := G6.alloc (y.cells v1a v1c v1sa v1sc) 28
  have HV6 : Hid (∀ W, Below w6.heap.size w6 W → PRow W y v1a v1sa) := fun W hW => ho6.row.below hW (Nat.le_refl _)
  clear hb6 ho6 F5 HC4 c0 c1 c2 c3 c4 c5 c6 c7 c8 d0 d1 d2 e0 e1 e2 zc zd ze
  obtain ⟨c0, c1, c2, c3, c4, c5, c6, c7, c8⟩ := R.boxc (G6.at 3 rfl)
  have zc : w2.heap.size < w6.heap.size := by have := G6.le 3 rfl; (try simp only [World.size_alloc] at this); omega
  obtain ⟨d0, d1, d2⟩ := P.boxc (G6.at 2 rfl)
  simp only [World.size_alloc] at d0 d1 d2
  have zd : w2.heap.size + 1 < w6.heap.size := by have := G6.le 2 rfl; (try simp only [World.size_alloc] at this); omega
  obtain ⟨e0, e1, e2⟩ := P.boxc (G6.at 1 rfl)
  have ze : w3.heap.size < w6.heap.size := by have := G6.le 1 rfl; (try simp only [World.size_alloc] at this); omega
  clear G6
  go_wp2_with fail
  refine (HC5.out _ _ _ _ _ (HT3.out _ (below_next (below_next H35.out H56.out) (below_alloc1 _ _))) HT3c.out.1 HT3c.out.2).mono ?_
  rintro e w7 ⟨⟨v2a, v2c, v2sa, v2sc⟩, rfl, ho7, hb7⟩
  have H67 : Hid (Below w6.heap.size w6 w7) := below_next (below_alloc1 _ _) hb7
  have G7 := F6.step hb7
  have F7 := G7.alloc (y.cells v2a v2c v2sa v2sc) 28
  have HV7 : Hid (∀ W, Below w7.heap.size w7 W → PRow W y v2a v2sa) := fun W hW => ho7.row.below hW (Nat.le_refl _)
  clear hb7 ho7 F6 HC5 c0 c1 c2 c3 c4 c5 c6 c7 c8 d0 d1 d2 e0 e1 e2 zc zd ze
  obtain ⟨c0, c1, c2, c3, c4, c5, c6, c7, c8⟩ := R.boxc (G7.at 4 rfl)
  have zc : w2.heap.size < w7.heap.size := by have := G7.le 4 rfl; (try simp only [World.size_alloc] at this); omega
  obtain ⟨d0, d1, d2⟩ := P.boxc (G7.at 3 rfl)
  simp only [World.size_alloc] at d0 d1 d2
  have zd : w2.heap.size + 1 < w7.heap.size := by have := G7.le 3 rfl; (try simp only [World.size_alloc] at this); omega
  obtain ⟨e0, e1, e2⟩ := P.boxc (G7.at 2 rfl)
  have ze : w3.heap.size < w7.heap.size := by have := G7.le 2 rfl; (try simp only [World.size_alloc] at this); omega
  clear G7
  go_wp2_with fail
  refine (HC6.out _ (HP.out _ F7.below)).mono ?_
  rintro e w8 ⟨rfl, hb8⟩
  have F8 := F7.step hb8
  have HX8 : Hid (Below w7.heap.size w7 w8) := below_next (below_alloc1 _ _) hb8
  clear hb8 F7 HC6 c0 c1 c2 c3 c4 c5 c6 c7 c8 d0 d1 d2 e0 e1 e2 zc zd ze
  obtain ⟨c0, c1, c2, c3, c4, c5, c6, c7, c8⟩ := R.boxc (F8.at 5 rfl)
  obtain ⟨d0, d1, d2⟩ := P.boxc (F8.at 4 rfl)
  simp only [World.size_alloc] at d0 d1 d2
  obtain ⟨e0, e1, e2⟩ := P.boxc (F8.at 3 rfl)
  go_wp2_with fail
  refine (HC7.out _ (HP.out _ F8.below)).mono ?_
  rintro e w9 ⟨rfl, hb9⟩
  have F9 := F8.step hb9
  have HX9 : Hid (Below w7.heap.size w7 w9) := below_next HX8.out hb9
  clear hb9 F8 HC7 HX8 c0 c1 c2 c3 c4 c5 c6 c7 c8 d0 d1 d2 e0 e1 e2
  obtain ⟨c0, c1, c2, c3, c4, c5, c6, c7, c8⟩ := R.boxc (F9.at 5 rfl)
  obtain ⟨d0, d1, d2⟩ := P.boxc (F9.at 4 rfl)
  simp only [World.size_alloc] at d0 d1 d2
  obtain ⟨e0, e1, e2⟩ := P.boxc (F9.at 3 rfl)
  go_wp2_with fail
  refine (HC8.out _ (HP.out _ F9.below)).mono ?_
  rintro e w10 ⟨rfl, hb10⟩
  have F10 := F9.step hb10
  have HX10 : Hid (Below w7.heap.size w7 w10) := below_next HX9.out hb10
  clear hb10 F9 HC8 HX9 c0 c1 c2 c3 c4 c5 c6 c7 c8 d0 d1 d2 e0 e1 e2
  obtain ⟨c0, c1, c2, c3, c4, c5, c6, c7, c8⟩ := R.boxc (F10.at 5 rfl)
  obtain ⟨d0, d1, d2⟩ := P.boxc (F10.at 4 rfl)
  simp only [World.size_alloc] at d0 d1 d2
  obtain ⟨e0, e1, e2⟩ := P.boxc (F10.at 3 rfl)
  go_wp2_with fail
  refine (HC9.out _ _ _ _ _ (HT3.out _ (below_next (below_next (below_next H35.out H56.out) H67.out) HX10.out)) HT3c.out.1 HT3c.out.2).mono ?_
  rintro e w11 ⟨rfl, hb11⟩
  have F11 := F10.step hb11
  have HX11 : Hid (Below w7.heap.size w7 w11) := below_next HX10.out hb11
  clear hb11 F10 HC9 HX10 c0 c1 c2 c3 c4 c5 c6 c7 c8 d0 d1 d2 e0 e1 e2
  obtain ⟨c0, c1, c2, c3, c4, c5, c6, c7, c8⟩ := R.boxc (F11.at 5 rfl)
  obtain ⟨d0, d1, d2⟩ := P.boxc (F11.at 4 rfl)
  simp only [World.size_alloc] at d0 d1 d2
  obtain ⟨e0, e1, e2⟩ := P.boxc (F11.at 3 rfl)
  -- TAIL
  have zc : w2.heap.size < w11.heap.size := F11.le 5 rfl
  have zd : w2.heap.size + 1 < w11.heap.size := by have := F11.le 4 rfl; (try simp only [World.size_alloc] at this); omega
  have HPW : Hid (∀ W, Below w11.heap.size w11 W → PRow W p A.pa A.sa) := fun W hW => HP.out W (below_next F11.below hW)
  have HTW : Hid (∀ W, Below w11.heap.size w11 W → TabB W) := fun W hW => HT.out W (HW.out _ (below_next F11.below hW))
  have HSK : Hid (∀ W, Below w11.heap.size w11 W → (W.cell? ⟨w2.heap.size, 0, none⟩ = some (.int .i64 r.pits) ∧ W.cell? ⟨w2.heap.size, 1, none⟩ = some (.int .i64 r.seeds) ∧ W.cell? ⟨w2.heap.size, 2, none⟩ = some (.bool r.stores) ∧ W.cell? ⟨w2.heap.size, 3, none⟩ = some (.bool r.skip) ∧ W.cell? ⟨w2.heap.size, 4, none⟩ = some (.bool r.relay) ∧ W.cell? ⟨w2.heap.size, 5, none⟩ = some (.bool r.feed) ∧ W.cell? ⟨w2.heap.size, 6, none⟩ = some (.bool r.again) ∧ W.cell? ⟨w2.heap.size, 7, none⟩ = some (.int .i64 r.capture) ∧ W.cell? ⟨w2.heap.size, 8, none⟩ = some (.int .i64 r.slam) ∧ W.cell? ⟨w2.heap.size + 1, 0, none⟩ = some (.slice A.pa p.pits.length A.pc) ∧ W.cell? ⟨w2.heap.size + 1, 1, none⟩ = some (.slice A.sa p.stores.length A.sc) ∧ W.cell? ⟨w2.heap.size + 1, 2, none⟩ = some (.int .i64 p.player))) := fun W hW => ⟨((bcell hW).1 _ _ zc).trans c0, ((bcell hW).1 _ _ zc).trans c1, ((bcell hW).1 _ _ zc).trans c2, ((bcell hW).1 _ _ zc).trans c3, ((bcell hW).1 _ _ zc).trans c4, ((bcell hW).1 _ _ zc).trans c5, ((bcell hW).1 _ _ zc).trans c6, ((bcell hW).1 _ _ zc).trans c7, ((bcell hW).1 _ _ zc).trans c8, ((bcell hW).1 _ _ zd).trans d0, ((bcell hW).1 _ _ zd).trans d1, ((bcell hW).1 _ _ zd).trans d2⟩
  have HF11 := Lib.hid F11
  clear F11 c0 c1 c2 c3 c4 c5 c6 c7 c8 d0 d1 d2 e0 e1 e2
  go_upto_region 14 with fail
  go_cut [21, 22] from 86 to 93 (fun s21 s22 wx => ∃ (nb : Nat) (E : A2), s21 = .pointer (some ⟨nb, 0, none⟩) ∧ s22 = .bool true ∧ RdSt w11 wx p nb E)
  case first =>
    refine heldH (S := fun W => W.cell? ⟨w2.heap.size, 0, none⟩ = some (.int .i64 r.pits) ∧ W.cell? ⟨w2.heap.size, 1, none⟩ = some (.int .i64 r.seeds) ∧ W.cell? ⟨w2.heap.size, 2, none⟩ = some (.bool r.stores) ∧ W.cell? ⟨w2.heap.size, 3, none⟩ = some (.bool r.skip) ∧ W.cell? ⟨w2.heap.size, 4, none⟩ = some (.bool r.relay) ∧ W.cell? ⟨w2.heap.size, 5, none⟩ = some (.bool r.feed) ∧ W.cell? ⟨w2.heap.size, 6, none⟩ = some (.bool r.again) ∧ W.cell? ⟨w2.heap.size, 7, none⟩ = some (.int .i64 r.capture) ∧ W.cell? ⟨w2.heap.size, 8, none⟩ = some (.int .i64 r.slam) ∧ W.cell? ⟨w2.heap.size + 1, 0, none⟩ = some (.slice A.pa p.pits.length A.pc) ∧ W.cell? ⟨w2.heap.size + 1, 1, none⟩ = some (.slice A.sa p.stores.length A.sc) ∧ W.cell? ⟨w2.heap.size + 1, 2, none⟩ = some (.int .i64 p.player)) (n := 11) (listed := #[false, false, false, false, false, false, false, false, false, false, false]) (by kernel_rfl) (by rfl) (by rfl) ?_ (fun hHeld => ?_)
    (focus ((try dsimp only); (first | done | (((refine HSK.out _ ?_; first | (with_reducible exact G13.below) | (with_reducible exact G13.below.alloc G13.below.size _) | (with_reducible exact G12.below) | (with_reducible exact G12.below.alloc G12.below.size _) | (with_reducible exact (Fr.start w11).drew.below) | (with_reducible exact ((Fr.start w11).allocF _ _).drew.below) | (repeat (first | (with_reducible exact G13.below) | ((with_reducible refine Below.setCell ?_ ?_ _); rotate_left; (simp <;> omega)))))); done))))
    (refine takeH (i := 0) (v := ?_) (by decide +kernel) (by decide +kernel) (by kernel_rfl) (by rfl) (by exact fun _ _ _ h => h) (by rfl) ?_ (by assumption) ?_); rotate_left; (focus (intro w hSw; (try dsimp only at hSw); go_simp; (try with_reducible rfl); done)); (try simp only [Act.put, List.setIfInBounds_toArray, List.set_cons_zero, List.set_cons_succ])
    (refine takeH (i := 1) (v := ?_) (by decide +kernel) (by decide +kernel) (by kernel_rfl) (by rfl) (by exact fun _ _ _ h => h) (by rfl) ?_ (by assumption) ?_); rotate_left; (focus (intro w hSw; (try dsimp only at hSw); go_simp; (try with_reducible rfl); done)); (try simp only [Act.put, List.setIfInBounds_toArray, List.set_cons_zero, List.set_cons_succ])
    (refine takeH (i := 2) (v := ?_) (by decide +kernel) (by decide +kernel) (by kernel_rfl) (by rfl) (by exact fun _ _ _ h => h) (by rfl) ?_ (by assumption) ?_); rotate_left; (focus (intro w hSw; (try dsimp only at hSw); go_simp; (try with_reducible rfl); done)); (try simp only [Act.put, List.setIfInBounds_toArray, List.set_cons_zero, List.set_cons_succ])
    refine bothH (i := 3) (j := 8) (by decide +kernel) (by rfl) (by rfl) (by rfl) (by rfl) (fun K hK => ?_) (fun K hK => ?_)
    go_simp
    (first | (go_at_call 12; (first | (refine (HCA.out _ (HPW.out _ (Fr.start w11).drew.below)).mono ?_) | (refine (HCA.out _ (HPW.out _ ((Fr.start w11).allocF #[.slice none 0 0, .slice none 0 0, .int .i64 0] 28).drew.below)).mono ?_)); (rintro e w12 ⟨rfl, hb12⟩); (first | (have G12 := (Fr.start w11).drew.step hb12) | (have G12 := ((Fr.start w11).allocF #[.slice none 0 0, .slice none 0 0, .int .i64 0] 28).drew.step hb12)); (have s12 := hb12.size); (try simp only [World.size_alloc, World.size_drew] at s12)) | (go_at_call 11; (first | (refine (HCB.out _ (HTW.out _ G12.below)).mono ?_) | (refine (HCB.out _ (HTW.out _ (G12.allocF #[.slice none 0 0, .slice none 0 0, .int .i64 0] 28).below)).mono ?_)); (rintro e w13 ⟨⟨ra, rc, rsa, rsc⟩, rfl, ho13, hb13⟩); (first | (have G13 := G12.step hb13) | (have G13 := (G12.allocF #[.slice none 0 0, .slice none 0 0, .int .i64 0] 28).step hb13)); (have s13 := hb13.size); (try simp only [World.size_alloc, World.size_drew] at s13 ho13); (try (obtain ⟨bx, bf⟩ := G13.at 0 rfl; have x0 := bx 0 _ rfl; have x1 := bx 1 _ rfl; have x2 := bx 2 _ rfl; try simp only [World.size_alloc, World.size_drew] at x0 x1 x2 bf))) | skip)
    refine hK.out _ _ ?_ (fun hHeld' => ?_)
    (focus ((try dsimp only); (first | done | (((refine HSK.out _ ?_; first | (with_reducible exact G13.below) | (with_reducible exact G13.below.alloc G13.below.size _) | (with_reducible exact G12.below) | (with_reducible exact G12.below.alloc G12.below.size _) | (with_reducible exact (Fr.start w11).drew.below) | (with_reducible exact ((Fr.start w11).allocF _ _).drew.below) | (repeat (first | (with_reducible exact G13.below) | ((with_reducible refine Below.setCell ?_ ?_ _); rotate_left; (simp <;> omega)))))); done))))
    clear hK K hHeld
    have hHeld := hHeld'
    clear hHeld'
    (try simp only [Act.put, List.setIfInBounds_toArray, List.set_cons_zero, List.set_cons_succ])
    refine bothH (i := 4) (j := 8) (by decide +kernel) (by rfl) (by rfl) (by rfl) (by rfl) (fun K hK => ?_) (fun K hK => ?_)
    go_simp
    (first | (go_at_call 12; (first | (refine (HCA.out _ (HPW.out _ (Fr.start w11).drew.below)).mono ?_) | (refine (HCA.out _ (HPW.out _ ((Fr.start w11).allocF #[.slice none 0 0, .slice none 0 0, .int .i64 0] 28).drew.below)).mono ?_)); (rintro e w12 ⟨rfl, hb12⟩); (first | (have G12 := (Fr.start w11).drew.step hb12) | (have G12 := ((Fr.start w11).allocF #[.slice none 0 0, .slice none 0 0, .int .i64 0] 28).drew.step hb12)); (have s12 := hb12.size); (try simp only [World.size_alloc, World.size_drew] at s12)) | (go_at_call 11; (first | (refine (HCB.out _ (HTW.out _ G12.below)).mono ?_) | (refine (HCB.out _ (HTW.out _ (G12.allocF #[.slice none 0 0, .slice none 0 0, .int .i64 0] 28).below)).mono ?_)); (rintro e w13 ⟨⟨ra, rc, rsa, rsc⟩, rfl, ho13, hb13⟩); (first | (have G13 := G12.step hb13) | (have G13 := (G12.allocF #[.slice none 0 0, .slice none 0 0, .int .i64 0] 28).step hb13)); (have s13 := hb13.size); (try simp only [World.size_alloc, World.size_drew] at s13 ho13); (try (obtain ⟨bx, bf⟩ := G13.at 0 rfl; have x0 := bx 0 _ rfl; have x1 := bx 1 _ rfl; have x2 := bx 2 _ rfl; try simp only [World.size_alloc, World.size_drew] at x0 x1 x2 bf))) | skip)
    refine hK.out _ _ ?_ (fun hHeld' => ?_)
    (focus ((try dsimp only); (first | done | (((refine HSK.out _ ?_; first | (with_reducible exact G13.below) | (with_reducible exact G13.below.alloc G13.below.size _) | (with_reducible exact G12.below) | (with_reducible exact G12.below.alloc G12.below.size _) | (with_reducible exact (Fr.start w11).drew.below) | (with_reducible exact ((Fr.start w11).allocF _ _).drew.below) | (repeat (first | (with_reducible exact G13.below) | ((with_reducible refine Below.setCell ?_ ?_ _); rotate_left; (simp <;> omega)))))); done))))
    clear hK K hHeld
    have hHeld := hHeld'
    clear hHeld'
    (try simp only [Act.put, List.setIfInBounds_toArray, List.set_cons_zero, List.set_cons_succ])
    (refine takeH (i := 5) (v := ?_) (by decide +kernel) (by decide +kernel) (by kernel_rfl) (by rfl) (by exact fun _ _ _ h => h) (by rfl) ?_ (by assumption) ?_); rotate_left; (focus (intro w hSw; (try dsimp only at hSw); go_simp; (try with_reducible rfl); done)); (try simp only [Act.put, List.setIfInBounds_toArray, List.set_cons_zero, List.set_cons_succ])
    (refine takeH (i := 6) (v := ?_) (by decide +kernel) (by decide +kernel) (by kernel_rfl) (by rfl) (by exact fun _ _ _ h => h) (by rfl) ?_ (by assumption) ?_); rotate_left; (focus (intro w hSw; (try dsimp only at hSw); go_simp; (try with_reducible rfl); done)); (try simp only [Act.put, List.setIfInBounds_toArray, List.set_cons_zero, List.set_cons_succ])
    (refine takeH (i := 7) (v := ?_) (by decide +kernel) (by decide +kernel) (by kernel_rfl) (by rfl) (by exact fun _ _ _ h => h) (by rfl) ?_ (by assumption) ?_); rotate_left; (focus (intro w hSw; (try dsimp only at hSw); go_simp; (try with_reducible rfl); done)); (try simp only [Act.put, List.setIfInBounds_toArray, List.set_cons_zero, List.set_cons_succ])
    refine nextH (i := 8) (by decide +kernel) (by rfl) (by rfl) (fun K hK => ?_)
    go_simp
    (first | (go_at_call 12; (first | (refine (HCA.out _ (HPW.out _ (Fr.start w11).drew.below)).mono ?_) | (refine (HCA.out _ (HPW.out _ ((Fr.start w11).allocF #[.slice none 0 0, .slice none 0 0, .int .i64 0] 28).drew.below)).mono ?_)); (rintro e w12 ⟨rfl, hb12⟩); (first | (have G12 := (Fr.start w11).drew.step hb12) | (have G12 := ((Fr.start w11).allocF #[.slice none 0 0, .slice none 0 0, .int .i64 0] 28).drew.step hb12)); (have s12 := hb12.size); (try simp only [World.size_alloc, World.size_drew] at s12)) | (go_at_call 11; (first | (refine (HCB.out _ (HTW.out _ G12.below)).mono ?_) | (refine (HCB.out _ (HTW.out _ (G12.allocF #[.slice none 0 0, .slice none 0 0, .int .i64 0] 28).below)).mono ?_)); (rintro e w13 ⟨⟨ra, rc, rsa, rsc⟩, rfl, ho13, hb13⟩); (first | (have G13 := G12.step hb13) | (have G13 := (G12.allocF #[.slice none 0 0, .slice none 0 0, .int .i64 0] 28).step hb13)); (have s13 := hb13.size); (try simp only [World.size_alloc, World.size_drew] at s13 ho13); (try (obtain ⟨bx, bf⟩ := G13.at 0 rfl; have x0 := bx 0 _ rfl; have x1 := bx 1 _ rfl; have x2 := bx 2 _ rfl; try simp only [World.size_alloc, World.size_drew] at x0 x1 x2 bf))) | skip)
    refine hK.out _ _ ?_ (fun hHeld' => ?_)
    (focus ((try dsimp only); (first | done | (((refine HSK.out _ ?_; first | (with_reducible exact G13.below) | (with_reducible exact G13.below.alloc G13.below.size _) | (with_reducible exact G12.below) | (with_reducible exact G12.below.alloc G12.below.size _) | (with_reducible exact (Fr.start w11).drew.below) | (with_reducible exact ((Fr.start w11).allocF _ _).drew.below) | (repeat (first | (with_reducible exact G13.below) | ((with_reducible refine Below.setCell ?_ ?_ _); rotate_left; (simp <;> omega)))))); done))))
    clear hK K hHeld
    have hHeld := hHeld'
    clear hHeld'
    (try simp only [Act.put, List.setIfInBounds_toArray, List.set_cons_zero, List.set_cons_succ])
    refine nextH (i := 9) (by decide +kernel) (by rfl) (by rfl) (fun K hK => ?_)
    go_simp
    (first | (go_at_call 12; (first | (refine (HCA.out _ (HPW.out _ (Fr.start w11).drew.below)).mono ?_) | (refine (HCA.out _ (HPW.out _ ((Fr.start w11).allocF #[.slice none 0 0, .slice none 0 0, .int .i64 0] 28).drew.below)).mono ?_)); (rintro e w12 ⟨rfl, hb12⟩); (first | (have G12 := (Fr.start w11).drew.step hb12) | (have G12 := ((Fr.start w11).allocF #[.slice none 0 0, .slice none 0 0, .int .i64 0] 28).drew.step hb12)); (have s12 := hb12.size); (try simp only [World.size_alloc, World.size_drew] at s12)) | (go_at_call 11; (first | (refine (HCB.out _ (HTW.out _ G12.below)).mono ?_) | (refine (HCB.out _ (HTW.out _ (G12.allocF #[.slice none 0 0, .slice none 0 0, .int .i64 0] 28).below)).mono ?_)); (rintro e w13 ⟨⟨ra, rc, rsa, rsc⟩, rfl, ho13, hb13⟩); (first | (have G13 := G12.step hb13) | (have G13 := (G12.allocF #[.slice none 0 0, .slice none 0 0, .int .i64 0] 28).step hb13)); (have s13 := hb13.size); (try simp only [World.size_alloc, World.size_drew] at s13 ho13); (try (obtain ⟨bx, bf⟩ := G13.at 0 rfl; have x0 := bx 0 _ rfl; have x1 := bx 1 _ rfl; have x2 := bx 2 _ rfl; try simp only [World.size_alloc, World.size_drew] at x0 x1 x2 bf))) | skip)
    refine hK.out _ _ ?_ (fun hHeld' => ?_)
    (focus ((try dsimp only); (first | done | (((refine HSK.out _ ?_; first | (with_reducible exact G13.below) | (with_reducible exact G13.below.alloc G13.below.size _) | (with_reducible exact G12.below) | (with_reducible exact G12.below.alloc G12.below.size _) | (with_reducible exact (Fr.start w11).drew.below) | (with_reducible exact ((Fr.start w11).allocF _ _).drew.below) | (repeat (first | (with_reducible exact G13.below) | ((with_reducible refine Below.setCell ?_ ?_ _); rotate_left; (simp <;> omega)))))); done))))
    clear hK K hHeld
    have hHeld := hHeld'
    clear hHeld'
    (try simp only [Act.put, List.setIfInBounds_toArray, List.set_cons_zero, List.set_cons_succ])
    (refine takeH (i := 10) (v := ?_) (by decide +kernel) (by decide +kernel) (by kernel_rfl) (by rfl) (by exact fun _ _ _ h => h) (by rfl) ?_ (by assumption) ?_); rotate_left; (focus (intro w hSw; (try dsimp only at hSw); go_simp; (try with_reducible rfl); done)); (try simp only [Act.put, List.setIfInBounds_toArray, List.set_cons_zero, List.set_cons_succ])
    refine wpAnyH_done (by decide +kernel) ?_ _
    rotate_left 1
    go_simp
    (first | (go_at_call 12; (first | (refine (HCA.out _ (HPW.out _ (Fr.start w11).drew.below)).mono ?_) | (refine (HCA.out _ (HPW.out _ ((Fr.start w11).allocF #[.slice none 0 0, .slice none 0 0, .int .i64 0] 28).drew.below)).mono ?_)); (rintro e w12 ⟨rfl, hb12⟩); (first | (have G12 := (Fr.start w11).drew.step hb12) | (have G12 := ((Fr.start w11).allocF #[.slice none 0 0, .slice none 0 0, .int .i64 0] 28).drew.step hb12)); (have s12 := hb12.size); (try simp only [World.size_alloc, World.size_drew] at s12)) | (go_at_call 11; (first | (refine (HCB.out _ (HTW.out _ G12.below)).mono ?_) | (refine (HCB.out _ (HTW.out _ (G12.allocF #[.slice none 0 0, .slice none 0 0, .int .i64 0] 28).below)).mono ?_)); (rintro e w13 ⟨⟨ra, rc, rsa, rsc⟩, rfl, ho13, hb13⟩); (first | (have G13 := G12.step hb13) | (have G13 := (G12.allocF #[.slice none 0 0, .slice none 0 0, .int .i64 0] 28).step hb13)); (have s13 := hb13.size); (try simp only [World.size_alloc, World.size_drew] at s13 ho13); (try (obtain ⟨bx, bf⟩ := G13.at 0 rfl; have x0 := bx 0 _ rfl; have x1 := bx 1 _ rfl; have x2 := bx 2 _ rfl; try simp only [World.size_alloc, World.size_drew] at x0 x1 x2 bf))) | skip)
    refine hK.out _ _ ?_ (fun hHeld' => ?_)
    (focus ((try dsimp only); (first | done | (((refine HSK.out _ ?_; first | (with_reducible exact G13.below) | (with_reducible exact G13.below.alloc G13.below.size _) | (with_reducible exact G12.below) | (with_reducible exact G12.below.alloc G12.below.size _) | (with_reducible exact (Fr.start w11).drew.below) | (with_reducible exact ((Fr.start w11).allocF _ _).drew.below) | (repeat (first | (with_reducible exact G13.below) | ((with_reducible refine Below.setCell ?_ ?_ _); rotate_left; (simp <;> omega)))))); done))))
    clear hK K hHeld
    have hHeld := hHeld'
    clear hHeld'
    (try simp only [Act.put, List.setIfInBounds_toArray, List.set_cons_zero, List.set_cons_succ])
    refine nextH (i := 4) (by decide +kernel) (by rfl) (by rfl) (fun K hK => ?_)
    go_simp
    (first | (go_at_call 12; (first | (refine (HCA.out _ (HPW.out _ (Fr.start w11).drew.below)).mono ?_) | (refine (HCA.out _ (HPW.out _ ((Fr.start w11).allocF #[.slice none 0 0, .slice none 0 0, .int .i64 0] 28).drew.below)).mono ?_)); (rintro e w12 ⟨rfl, hb12⟩); (first | (have G12 := (Fr.start w11).drew.step hb12) | (have G12 := ((Fr.start w11).allocF #[.slice none 0 0, .slice none 0 0, .int .i64 0] 28).drew.step hb12)); (have s12 := hb12.size); (try simp only [World.size_alloc, World.size_drew] at s12)) | (go_at_call 11; (first | (refine (HCB.out _ (HTW.out _ G12.below)).mono ?_) | (refine (HCB.out _ (HTW.out _ (G12.allocF #[.slice none 0 0, .slice none 0 0, .int .i64 0] 28).below)).mono ?_)); (rintro e w13 ⟨⟨ra, rc, rsa, rsc⟩, rfl, ho13, hb13⟩); (first | (have G13 := G12.step hb13) | (have G13 := (G12.allocF #[.slice none 0 0, .slice none 0 0, .int .i64 0] 28).step hb13)); (have s13 := hb13.size); (try simp only [World.size_alloc, World.size_drew] at s13 ho13); (try (obtain ⟨bx, bf⟩ := G13.at 0 rfl; have x0 := bx 0 _ rfl; have x1 := bx 1 _ rfl; have x2 := bx 2 _ rfl; try simp only [World.size_alloc, World.size_drew] at x0 x1 x2 bf))) | skip)
    refine hK.out _ _ ?_ (fun hHeld' => ?_)
    (focus ((try dsimp only); (first | done | (((refine HSK.out _ ?_; first | (with_reducible exact G13.below) | (with_reducible exact G13.below.alloc G13.below.size _) | (with_reducible exact G12.below) | (with_reducible exact G12.below.alloc G12.below.size _) | (with_reducible exact (Fr.start w11).drew.below) | (with_reducible exact ((Fr.start w11).allocF _ _).drew.below) | (repeat (first | (with_reducible exact G13.below) | ((with_reducible refine Below.setCell ?_ ?_ _); rotate_left; (simp <;> omega)))))); done))))
    clear hK K hHeld
    have hHeld := hHeld'
    clear hHeld'
    (try simp only [Act.put, List.setIfInBounds_toArray, List.set_cons_zero, List.set_cons_succ])
    (refine takeH (i := 5) (v := ?_) (by decide +kernel) (by decide +kernel) (by kernel_rfl) (by rfl) (by exact fun _ _ _ h => h) (by rfl) ?_ (by assumption) ?_); rotate_left; (focus (intro w hSw; (try dsimp only at hSw); go_simp; (try with_reducible rfl); done)); (try simp only [Act.put, List.setIfInBounds_toArray, List.set_cons_zero, List.set_cons_succ])
    (refine takeH (i := 6) (v := ?_) (by decide +kernel) (by decide +kernel) (by kernel_rfl) (by rfl) (by exact fun _ _ _ h => h) (by rfl) ?_ (by assumption) ?_); rotate_left; (focus (intro w hSw; (try dsimp only at hSw); go_simp; (try with_reducible rfl); done)); (try simp only [Act.put, List.setIfInBounds_toArray, List.set_cons_zero, List.set_cons_succ])
    (refine takeH (i := 7) (v := ?_) (by decide +kernel) (by decide +kernel) (by kernel_rfl) (by rfl) (by exact fun _ _ _ h => h) (by rfl) ?_ (by assumption) ?_); rotate_left; (focus (intro w hSw; (try dsimp only at hSw); go_simp; (try with_reducible rfl); done)); (try simp only [Act.put, List.setIfInBounds_toArray, List.set_cons_zero, List.set_cons_succ])
    refine nextH (i := 9) (by decide +kernel) (by rfl) (by rfl) (fun K hK => ?_)
    go_simp
    (first | (go_at_call 12; (first | (refine (HCA.out _ (HPW.out _ (Fr.start w11).drew.below)).mono ?_) | (refine (HCA.out _ (HPW.out _ ((Fr.start w11).allocF #[.slice none 0 0, .slice none 0 0, .int .i64 0] 28).drew.below)).mono ?_)); (rintro e w12 ⟨rfl, hb12⟩); (first | (have G12 := (Fr.start w11).drew.step hb12) | (have G12 := ((Fr.start w11).allocF #[.slice none 0 0, .slice none 0 0, .int .i64 0] 28).drew.step hb12)); (have s12 := hb12.size); (try simp only [World.size_alloc, World.size_drew] at s12)) | (go_at_call 11; (first | (refine (HCB.out _ (HTW.out _ G12.below)).mono ?_) | (refine (HCB.out _ (HTW.out _ (G12.allocF #[.slice none 0 0, .slice none 0 0, .int .i64 0] 28).below)).mono ?_)); (rintro e w13 ⟨⟨ra, rc, rsa, rsc⟩, rfl, ho13, hb13⟩); (first | (have G13 := G12.step hb13) | (have G13 := (G12.allocF #[.slice none 0 0, .slice none 0 0, .int .i64 0] 28).step hb13)); (have s13 := hb13.size); (try simp only [World.size_alloc, World.size_drew] at s13 ho13); (try (obtain ⟨bx, bf⟩ := G13.at 0 rfl; have x0 := bx 0 _ rfl; have x1 := bx 1 _ rfl; have x2 := bx 2 _ rfl; try simp only [World.size_alloc, World.size_drew] at x0 x1 x2 bf))) | skip)
    refine hK.out _ _ ?_ (fun hHeld' => ?_)
    (focus ((try dsimp only); (first | done | (((refine HSK.out _ ?_; first | (with_reducible exact G13.below) | (with_reducible exact G13.below.alloc G13.below.size _) | (with_reducible exact G12.below) | (with_reducible exact G12.below.alloc G12.below.size _) | (with_reducible exact (Fr.start w11).drew.below) | (with_reducible exact ((Fr.start w11).allocF _ _).drew.below) | (repeat (first | (with_reducible exact G13.below) | ((with_reducible refine Below.setCell ?_ ?_ _); rotate_left; (simp <;> omega)))))); done))))
    clear hK K hHeld
    have hHeld := hHeld'
    clear hHeld'
    (try simp only [Act.put, List.setIfInBounds_toArray, List.set_cons_zero, List.set_cons_succ])
    (refine takeH (i := 10) (v := ?_) (by decide +kernel) (by decide +kernel) (by kernel_rfl) (by rfl) (by exact fun _ _ _ h => h) (by rfl) ?_ (by assumption) ?_); rotate_left; (focus (intro w hSw; (try dsimp only at hSw); go_simp; (try with_reducible rfl); done)); (try simp only [Act.put, List.setIfInBounds_toArray, List.set_cons_zero, List.set_cons_succ])
    refine wpAnyH_done (by decide +kernel) ?_ _
    rotate_left 1
    go_simp
    (first | (go_at_call 12; (first | (refine (HCA.out _ (HPW.out _ (Fr.start w11).drew.below)).mono ?_) | (refine (HCA.out _ (HPW.out _ ((Fr.start w11).allocF #[.slice none 0 0, .slice none 0 0, .int .i64 0] 28).drew.below)).mono ?_)); (rintro e w12 ⟨rfl, hb12⟩); (first | (have G12 := (Fr.start w11).drew.step hb12) | (have G12 := ((Fr.start w11).allocF #[.slice none 0 0, .slice none 0 0, .int .i64 0] 28).drew.step hb12)); (have s12 := hb12.size); (try simp only [World.size_alloc, World.size_drew] at s12)) | (go_at_call 11; (first | (refine (HCB.out _ (HTW.out _ G12.below)).mono ?_) | (refine (HCB.out _ (HTW.out _ (G12.allocF #[.slice none 0 0, .slice none 0 0, .int .i64 0] 28).below)).mono ?_)); (rintro e w13 ⟨⟨ra, rc, rsa, rsc⟩, rfl, ho13, hb13⟩); (first | (have G13 := G12.step hb13) | (have G13 := (G12.allocF #[.slice none 0 0, .slice none 0 0, .int .i64 0] 28).step hb13)); (have s13 := hb13.size); (try simp only [World.size_alloc, World.size_drew] at s13 ho13); (try (obtain ⟨bx, bf⟩ := G13.at 0 rfl; have x0 := bx 0 _ rfl; have x1 := bx 1 _ rfl; have x2 := bx 2 _ rfl; try simp only [World.size_alloc, World.size_drew] at x0 x1 x2 bf))) | skip)
    refine hK.out _ _ ?_ (fun hHeld' => ?_)
    (focus ((try dsimp only); (first | done | (((refine HSK.out _ ?_; first | (with_reducible exact G13.below) | (with_reducible exact G13.below.alloc G13.below.size _) | (with_reducible exact G12.below) | (with_reducible exact G12.below.alloc G12.below.size _) | (with_reducible exact (Fr.start w11).drew.below) | (with_reducible exact ((Fr.start w11).allocF _ _).drew.below) | (repeat (first | (with_reducible exact G13.below) | ((with_reducible refine Below.setCell ?_ ?_ _); rotate_left; (simp <;> omega)))))); done))))
    clear hK K hHeld
    have hHeld := hHeld'
    clear hHeld'
    (try simp only [Act.put, List.setIfInBounds_toArray, List.set_cons_zero, List.set_cons_succ])
    refine nextH (i := 3) (by decide +kernel) (by rfl) (by rfl) (fun K hK => ?_)
    go_simp
    (first | (go_at_call 12; (first | (refine (HCA.out _ (HPW.out _ (Fr.start w11).drew.below)).mono ?_) | (refine (HCA.out _ (HPW.out _ ((Fr.start w11).allocF #[.slice none 0 0, .slice none 0 0, .int .i64 0] 28).drew.below)).mono ?_)); (rintro e w12 ⟨rfl, hb12⟩); (first | (have G12 := (Fr.start w11).drew.step hb12) | (have G12 := ((Fr.start w11).allocF #[.slice none 0 0, .slice none 0 0, .int .i64 0] 28).drew.step hb12)); (have s12 := hb12.size); (try simp only [World.size_alloc, World.size_drew] at s12)) | (go_at_call 11; (first | (refine (HCB.out _ (HTW.out _ G12.below)).mono ?_) | (refine (HCB.out _ (HTW.out _ (G12.allocF #[.slice none 0 0, .slice none 0 0, .int .i64 0] 28).below)).mono ?_)); (rintro e w13 ⟨⟨ra, rc, rsa, rsc⟩, rfl, ho13, hb13⟩); (first | (have G13 := G12.step hb13) | (have G13 := (G12.allocF #[.slice none 0 0, .slice none 0 0, .int .i64 0] 28).step hb13)); (have s13 := hb13.size); (try simp only [World.size_alloc, World.size_drew] at s13 ho13); (try (obtain ⟨bx, bf⟩ := G13.at 0 rfl; have x0 := bx 0 _ rfl; have x1 := bx 1 _ rfl; have x2 := bx 2 _ rfl; try simp only [World.size_alloc, World.size_drew] at x0 x1 x2 bf))) | skip)
    refine hK.out _ _ ?_ (fun hHeld' => ?_)
    (focus ((try dsimp only); (first | done | (((refine HSK.out _ ?_; first | (with_reducible exact G13.below) | (with_reducible exact G13.below.alloc G13.below.size _) | (with_reducible exact G12.below) | (with_reducible exact G12.below.alloc G12.below.size _) | (with_reducible exact (Fr.start w11).drew.below) | (with_reducible exact ((Fr.start w11).allocF _ _).drew.below) | (repeat (first | (with_reducible exact G13.below) | ((with_reducible refine Below.setCell ?_ ?_ _); rotate_left; (simp <;> omega)))))); done))))
    clear hK K hHeld
    have hHeld := hHeld'
    clear hHeld'
    (try simp only [Act.put, List.setIfInBounds_toArray, List.set_cons_zero, List.set_cons_succ])
    refine nextH (i := 4) (by decide +kernel) (by rfl) (by rfl) (fun K hK => ?_)
    go_simp
    (first | (go_at_call 12; (first | (refine (HCA.out _ (HPW.out _ (Fr.start w11).drew.below)).mono ?_) | (refine (HCA.out _ (HPW.out _ ((Fr.start w11).allocF #[.slice none 0 0, .slice none 0 0, .int .i64 0] 28).drew.below)).mono ?_)); (rintro e w12 ⟨rfl, hb12⟩); (first | (have G12 := (Fr.start w11).drew.step hb12) | (have G12 := ((Fr.start w11).allocF #[.slice none 0 0, .slice none 0 0, .int .i64 0] 28).drew.step hb12)); (have s12 := hb12.size); (try simp only [World.size_alloc, World.size_drew] at s12)) | (go_at_call 11; (first | (refine (HCB.out _ (HTW.out _ G12.below)).mono ?_) | (refine (HCB.out _ (HTW.out _ (G12.allocF #[.slice none 0 0, .slice none 0 0, .int .i64 0] 28).below)).mono ?_)); (rintro e w13 ⟨⟨ra, rc, rsa, rsc⟩, rfl, ho13, hb13⟩); (first | (have G13 := G12.step hb13) | (have G13 := (G12.allocF #[.slice none 0 0, .slice none 0 0, .int .i64 0] 28).step hb13)); (have s13 := hb13.size); (try simp only [World.size_alloc, World.size_drew] at s13 ho13); (try (obtain ⟨bx, bf⟩ := G13.at 0 rfl; have x0 := bx 0 _ rfl; have x1 := bx 1 _ rfl; have x2 := bx 2 _ rfl; try simp only [World.size_alloc, World.size_drew] at x0 x1 x2 bf))) | skip)
    refine hK.out _ _ ?_ (fun hHeld' => ?_)
    (focus ((try dsimp only); (first | done | (((refine HSK.out _ ?_; first | (with_reducible exact G13.below) | (with_reducible exact G13.below.alloc G13.below.size _) | (with_reducible exact G12.below) | (with_reducible exact G12.below.alloc G12.below.size _) | (with_reducible exact (Fr.start w11).drew.below) | (with_reducible exact ((Fr.start w11).allocF _ _).drew.below) | (repeat (first | (with_reducible exact G13.below) | ((with_reducible refine Below.setCell ?_ ?_ _); rotate_left; (simp <;> omega)))))); done))))
    clear hK K hHeld
    have hHeld := hHeld'
    clear hHeld'
    (try simp only [Act.put, List.setIfInBounds_toArray, List.set_cons_zero, List.set_cons_succ])
    (refine takeH (i := 5) (v := ?_) (by decide +kernel) (by decide +kernel) (by kernel_rfl) (by rfl) (by exact fun _ _ _ h => h) (by rfl) ?_ (by assumption) ?_); rotate_left; (focus (intro w hSw; (try dsimp only at hSw); go_simp; (try with_reducible rfl); done)); (try simp only [Act.put, List.setIfInBounds_toArray, List.set_cons_zero, List.set_cons_succ])
    (refine takeH (i := 6) (v := ?_) (by decide +kernel) (by decide +kernel) (by kernel_rfl) (by rfl) (by exact fun _ _ _ h => h) (by rfl) ?_ (by assumption) ?_); rotate_left; (focus (intro w hSw; (try dsimp only at hSw); go_simp; (try with_reducible rfl); done)); (try simp only [Act.put, List.setIfInBounds_toArray, List.set_cons_zero, List.set_cons_succ])
    (refine takeH (i := 7) (v := ?_) (by decide +kernel) (by decide +kernel) (by kernel_rfl) (by rfl) (by exact fun _ _ _ h => h) (by rfl) ?_ (by assumption) ?_); rotate_left; (focus (intro w hSw; (try dsimp only at hSw); go_simp; (try with_reducible rfl); done)); (try simp only [Act.put, List.setIfInBounds_toArray, List.set_cons_zero, List.set_cons_succ])
    refine nextH (i := 9) (by decide +kernel) (by rfl) (by rfl) (fun K hK => ?_)
    go_simp
    (first | (go_at_call 12; (first | (refine (HCA.out _ (HPW.out _ (Fr.start w11).drew.below)).mono ?_) | (refine (HCA.out _ (HPW.out _ ((Fr.start w11).allocF #[.slice none 0 0, .slice none 0 0, .int .i64 0] 28).drew.below)).mono ?_)); (rintro e w12 ⟨rfl, hb12⟩); (first | (have G12 := (Fr.start w11).drew.step hb12) | (have G12 := ((Fr.start w11).allocF #[.slice none 0 0, .slice none 0 0, .int .i64 0] 28).drew.step hb12)); (have s12 := hb12.size); (try simp only [World.size_alloc, World.size_drew] at s12)) | (go_at_call 11; (first | (refine (HCB.out _ (HTW.out _ G12.below)).mono ?_) | (refine (HCB.out _ (HTW.out _ (G12.allocF #[.slice none 0 0, .slice none 0 0, .int .i64 0] 28).below)).mono ?_)); (rintro e w13 ⟨⟨ra, rc, rsa, rsc⟩, rfl, ho13, hb13⟩); (first | (have G13 := G12.step hb13) | (have G13 := (G12.allocF #[.slice none 0 0, .slice none 0 0, .int .i64 0] 28).step hb13)); (have s13 := hb13.size); (try simp only [World.size_alloc, World.size_drew] at s13 ho13); (try (obtain ⟨bx, bf⟩ := G13.at 0 rfl; have x0 := bx 0 _ rfl; have x1 := bx 1 _ rfl; have x2 := bx 2 _ rfl; try simp only [World.size_alloc, World.size_drew] at x0 x1 x2 bf))) | skip)
    refine hK.out _ _ ?_ (fun hHeld' => ?_)
    (focus ((try dsimp only); (first | done | (((refine HSK.out _ ?_; first | (with_reducible exact G13.below) | (with_reducible exact G13.below.alloc G13.below.size _) | (with_reducible exact G12.below) | (with_reducible exact G12.below.alloc G12.below.size _) | (with_reducible exact (Fr.start w11).drew.below) | (with_reducible exact ((Fr.start w11).allocF _ _).drew.below) | (repeat (first | (with_reducible exact G13.below) | ((with_reducible refine Below.setCell ?_ ?_ _); rotate_left; (simp <;> omega)))))); done))))
    clear hK K hHeld
    have hHeld := hHeld'
    clear hHeld'
    (try simp only [Act.put, List.setIfInBounds_toArray, List.set_cons_zero, List.set_cons_succ])
    (refine takeH (i := 10) (v := ?_) (by decide +kernel) (by decide +kernel) (by kernel_rfl) (by rfl) (by exact fun _ _ _ h => h) (by rfl) ?_ (by assumption) ?_); rotate_left; (focus (intro w hSw; (try dsimp only at hSw); go_simp; (try with_reducible rfl); done)); (try simp only [Act.put, List.setIfInBounds_toArray, List.set_cons_zero, List.set_cons_succ])
    refine wpAnyH_done (by decide +kernel) ?_ _
    all_goals (try (go_wp2_with fail))
    all_goals go_meet
    all_goals clear hHeld
    · have zz := x0
      refine ⟨_, ⟨ra, rc, rsa, rsc⟩, rfl, rfl, ⟨?_, ?_, ?_, ?_, ?_⟩⟩
      · repeat (first | (with_reducible exact G13.below) | ((with_reducible refine Below.setCell ?_ ?_ _); rotate_left; (simp <;> omega)))
      · simp [go_sem, x0, x1, x2]
      · simp [go_sem, x0, x1, x2]
      · simp [go_sem, x0, x1, x2]
      · exact (((ho13.setD _ _ _ (by omega)).setD _ _ _ (by omega)).setD _ _ _ (by omega)).row
    · refine ⟨_, ⟨ra, rc, rsa, rsc⟩, rfl, rfl, ⟨?_, ?_, ?_, ?_, ?_⟩⟩
      · exact below_next G13.below (below_alloc1 _ _)
      · simp [go_sem]
      · simp [go_sem]
      · simp [go_sem]
      · exact ho13.row.below (below_alloc1 _ _) (Nat.le_refl _)
    · refine ⟨_, ⟨ra, rc, rsa, rsc⟩, rfl, rfl, ⟨?_, ?_, ?_, ?_, ?_⟩⟩
      · repeat (first | (with_reducible exact G13.below) | ((with_reducible refine Below.setCell ?_ ?_ _); rotate_left; (simp <;> omega)))
      · simp [go_sem, x0, x1, x2]
      · simp [go_sem, x0, x1, x2]
      · simp [go_sem, x0, x1, x2]
      · exact (((ho13.setD _ _ _ (by omega)).setD _ _ _ (by omega)).setD _ _ _ (by omega)).row
  case rest =>
    obtain ⟨nb, ⟨ra, rc, rsa, rsc⟩, rfl, rfl, hst⟩ := hcut
    have F12 := HF11.out.step hst.bl
    have H12 : Hid (Below w7.heap.size w7 wc) := below_next HX11.out hst.bl
    have HRD : Hid (∀ W, Below wc.heap.size wc W → PRow W p ra rsa) := fun W hW => hst.row.below hW (Nat.le_refl _)
    have HRC : Hid (∀ W, Below wc.heap.size wc W → W.cell? ⟨nb, 0, none⟩ = some (.slice ra p.pits.length rc) ∧ W.cell? ⟨nb, 1, none⟩ = some (.slice rsa p.stores.length rsc) ∧ W.cell? ⟨nb, 2, none⟩ = some (.int .i64 p.player)) := fun W hW => by
      have hl : nb < wc.heap.size := World.block_lt_of_cell? wc _ hst.d0
      exact ⟨((bcell hW).1 _ _ hl).trans hst.d0, ((bcell hW).1 _ _ hl).trans hst.d1, ((bcell hW).1 _ _ hl).trans hst.d2⟩
    have HS : Hid (∀ W (x : P) (xa xsa ya ysa : Option Addr) (xc xsc yc ysc : Nat), PRow W x xa xsa → PRow W x ya ysa → x.pits.length ≤ 16 ∧ x.stores.length ≤ 16 → Calls Tryd.prog 13 #[x.val xa xc xsa xsc, x.val ya yc ysa ysc] W fun e w' => e = .returned (.bool true) ∧ Below W.heap.size W w') := fun W x xa xsa ya ysa xc xsc yc ysc h1 h2 h3 => by
      have h := sSamePosition_c x x xa xsa ya ysa xc xsc yc ysc W h1 h2 (by unfold maxLen; omega) (by unfold maxLen; omega) (by unfold maxLen; omega) (by unfold maxLen; omega)
      rw [decide_eq_true rfl] at h
      exact h
    clear hst HF11 HX11 zc zd HPW HTW HSK HCA HCB
    obtain ⟨d0, d1, d2⟩ := P.boxc (F12.at 4 rfl)
    simp only [World.size_alloc] at d0 d1 d2
    obtain ⟨b0, b1, b2⟩ := P.boxc (F12.at 2 rfl)
    obtain ⟨f0, f1, f2⟩ := P.boxc (F12.at 1 rfl)
    obtain ⟨g0, g1, g2⟩ := P.boxc (F12.at 0 rfl)
    go_wp2_with fail
    refine (HS.out _ p qa qsa A.pa A.sa qc qsc A.pc A.sc (HB5.out _ (below_next (below_next H56.out H67.out) H12.out)) (HP.out _ F12.below) HLEN.out.1).mono ?_
    rintro e w14 ⟨rfl, hb14⟩
    have F14 := F12.step hb14
    have H14 : Hid (Below w7.heap.size w7 w14) := below_next H12.out hb14
    have HB14 : Hid (Below wc.heap.size wc w14) := hb14
    clear d0 d1 d2 b0 b1 b2 f0 f1 f2 g0 g1 g2 hb14 F12 H12
    obtain ⟨f0, f1, f2⟩ := P.boxc (F14.at 1 rfl)
    obtain ⟨g0, g1, g2⟩ := P.boxc (F14.at 0 rfl)
    go_wp2_with fail
    refine (HS.out _ y v1a v1sa v2a v2sa v1c v1sc v2c v2sc (HV6.out _ (below_next H67.out H14.out)) (HV7.out _ H14.out) HLEN.out.2.2).mono ?_
    rintro e w15 ⟨rfl, hb15⟩
    have F15 := F14.step hb15
    have HB15 : Hid (Below wc.heap.size wc w15) := below_next HB14.out hb15
    clear f0 f1 f2 g0 g1 g2 hb15 F14 H14 HB14
    obtain ⟨d0, d1, d2⟩ := P.boxc (F15.at 4 rfl)
    simp only [World.size_alloc] at d0 d1 d2
    obtain ⟨f0, f1, f2⟩ := P.boxc (F15.at 1 rfl)
    obtain ⟨k0, k1, k2⟩ := HRC.out _ HB15.out
    have hy0 : (y.player == 0) = true := by rw [HY0.out]; rfl
    have hn0 : wrap64 (a + b) = N := HN.out
    go_wp2_with fail
    refine (HS.out _ p ra rsa A.pa A.sa rc rsc A.pc A.sc (HRD.out _ HB15.out) (HP.out _ F15.below) HLEN.out.1).mono ?_
    rintro e w16 ⟨rfl, hb16⟩
    have HB16 : Hid (Below w.heap.size w w16) := HW.out _ (below_next F15.below hb16)
    clear d0 d1 d2 f0 f1 f2 k0 k1 k2 hb16 F15
    go_wp2
    go_ret
    exact ⟨rfl, HB16.out⟩

set_option maxRecDepth 100000 in
theorem contract (H : Type) (enc : TypeId × Value → H) (W : World) (base : Nat) (args : Array Value) (ds gs : List (DataW H)) (before : List MemPlace)
    (hval : ∀ (j : Nat) t v, Tryd.f3.params[j]? = some t → args[j]? = some v → Value.okWide Tryd.prog W .any base t v)
    (hW : DataW.Whole enc Tryd.prog Tryd.f3.params.toList Rows.fnPositionsSpec.vars false W args.toList ds gs before) (hL : laidMetH Tryd.prog laidL W) :
    Calls Tryd.prog 3 args W fun e W' => ∃ v, e = .returned v ∧ Rows.fnPositionsSpec.post enc Tryd.prog Tryd.f3 false true false false W args v W' := by
  have hW' := hW
  have htab := Lib.tabBelow_of_tabIs (laidL_tab hL)
  obtain ⟨p, q, hA0, hV, rfl, hfz, hnd⟩ := hW
  have hA : DataW.TrodAll enc Tryd.prog W 0 (fun _ => true) true Tryd.f3.params.toList args.toList ds p := hA0
  rw [Tryd.params3] at hA hval
  obtain ⟨v0, vs0, d0, ds0, p0, q0, hargs, rfl, rfl, h0, r0⟩ := trodAll_cons hA
  obtain ⟨rfl, rfl, rfl⟩ := trodAll_nil r0
  obtain rfl : args = #[v0] := by cases args; simp_all
  obtain ⟨ba0, bc0, bs0, rfl, w0⟩ := arg_bytes (hval 0 22 v0 rfl rfl) h0
  refine (walk ba0 bc0 bs0 W w0.2.1 w0.2.2.2 htab).mono fun e W' ⟨he, hb⟩ => ?_
  subst he
  exact ⟨_, rfl, law_post hW' hb rfl rfl (by kernel_rfl) rfl⟩

set_option maxRecDepth 100000 in
theorem lifted (os : Os) (started : os.Started) (H : Type) (enc : TypeId × Value → H) :
    ReturnsInHanded {} Tryd.checked os 3 .any (fun w args => (Rows.fnPositionsSpec.pre enc Tryd.prog Tryd.f3 [] false w args ∧ laidMetH Tryd.prog laidL w) ∧ sizedMet enc Tryd.prog Tryd.f3 (OpenSpec.ofChange Rows.fnPositionsSpec) false w args)
      (Rows.fnPositionsSpec.post enc Tryd.prog Tryd.f3 false true false false) := by
  refine returnsInHanded_of_change_and (C := Tryd.checked) (X := fun w _ => laidMetH Tryd.prog laidL w) (fun _ _ _ hh h => h.of_heap hh) own started (by kernel_rfl) Tryd.func3
    (ChangeSpec.witness_shaped (enc := enc) (C := Tryd.checked) (os := os) (X := fun w _ => laidMetH Tryd.prog laidL w) false (World.doorLaid Tryd.prog 400 os) #[.slice none 0 0] 8 rfl (World.shaped_of_RefB (by kernel_rfl) (by kernel_rfl)) (by kernel_rfl) (by kernel_rfl) (by kernel_rfl) (doorL_met os _)) ?_
  intro W base args ds gs before hval0 hW _ _ hL _
  exact contract H enc W base args ds gs before hval0 hW hL

theorem row_proved : Rows.FnPositionsSaid :=
  OpenClaim.holds_of_wide 3 Tryd.f3 rfl rfl rfl rfl rfl rfl rfl ⟨rfl, rfl, rfl, rfl, rfl⟩ rfl rfl rfl rfl rfl (by kernel_rfl) Tryd.func3 (by kernel_rfl)
    (of_decide_eq_true (by kernel_rfl)) (by unfold Func.isWrapper; first | (rw [if_pos (by decide +kernel)]; kernel_rfl) | (rw [if_neg (by decide +kernel)]; exact ⟨rfl, rfl⟩))
    (fun os started H enc _ => lifted os started H enc)

set_option maxRecDepth 100000 in
theorem proved : Rows.FnPositionsCardSaid :=
  Claim7.holds_tied_plain_at .later [] [.data, .data, .data] true (true, "5a94c0a172f959b1e46538c4b8275e126a53ac15c33cdb9ddfa0b709a7424aff") false
    row_proved (fun _ h => by cases h) (by kernel_rfl) (fun _ h => by cases h) fnPositions_row_tie rfl ⟨rfl, rfl⟩ (by kernel_rfl) rfl
    (fun f fn hf hfn => by
      obtain rfl : f = 3 := Option.some.inj ((show Tryd.prog.funcNamed "loop.example/g00926/laws.FnPositions" = some 3 by kernel_rfl).symm.trans hf) |>.symm
      obtain rfl : fn = Tryd.f3 := (Option.some.inj (Tryd.func3.symm.trans hfn)).symm
      exact ⟨by kernel_rfl, fun j t ht => by
        rw [Tryd.params3] at ht
        have hm : t ∈ [22] := by simpa using Array.mem_of_getElem? ht
        have hall : ([22].all fun u => !Tryd.prog.wantsStandIn u) = true := by kernel_rfl
        exact (show Tryd.prog.wantsStandIn t = false by simpa using List.all_eq_true.1 hall t hm)⟩)
    (by kernel_rfl)
end Go.Proofs.YtenjffoboiohnaaDoor.lPositions
