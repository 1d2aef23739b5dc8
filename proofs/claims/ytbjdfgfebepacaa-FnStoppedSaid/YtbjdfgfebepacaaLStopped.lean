/- The law FnStopped returns true for every argument, and every argument reads afterwards as before. No conditions. -/
import Derived.Test.YtbjdfgfebepacaaClkD
import Derived.Test.YtbjdfgfebepacaaClkV
namespace Go.Proofs.Ytbjdfgfebepacaa.lStopped
set_option linter.unusedSimpArgs false
set_option linter.unusedVariables false
set_option linter.unnecessarySimpa false
open Go.RowKit Go.ChangeShapes Go.WideShapes Go.ChangeAt Go.Joins
open Go.ChangeMaps (open_string)

theorem byteP_up {base base' : Nat} {ca : Option Addr} {bs : List Int} {w : World} (h : ByteP base ca bs w) (hb : base ≤ base') : ByteP base' ca bs w := ⟨h.row, h.rng, h.len, fun cb co s e hp => Nat.lt_of_lt_of_le (h.low cb co s e hp) hb⟩
/-- a row that lies in the blocks below hi -/
def RowA (hi : Nat) (a : Option Addr) (xs : List Int) : World → Prop := fun W => Ints W a xs ∧ ∀ b o t, a = some ⟨b, o, t⟩ → 0 < xs.length → b < hi
theorem RowA.stab (hi : Nat) (a : Option Addr) (xs : List Int) : Stab 0 hi (RowA hi a xs) := fun w w' h hk =>
  ⟨fun j v hv => by
    obtain ⟨b, o, e, hc⟩ := h.1 j v hv
    have hl : j < (xs.map (Value.int .i64)).length := (List.getElem?_eq_some_iff.1 hv).1
    exact ⟨b, o, e, cell_stab hc (hk b (Nat.zero_le _) (h.2 b o none e (by simp at hl; omega)))⟩, h.2⟩
theorem fr_row {w0 w : World} {ls : List Res} (h : Fr w0 w ls) {a : Option Addr} {xs : List Int} (hr : Ints w a xs) : Fr w0 w (⟨0, w.heap.size, RowA w.heap.size a xs⟩ :: ls) :=
  h.add _ _ _ (RowA.stab _ _ _) ⟨hr, fun b o t e hp => by
    obtain ⟨b', o', e', hb, _⟩ := Ints.at hr hp
    rw [e] at e'; cases e'; exact hb⟩ (Nat.le_refl _)
set_option maxRecDepth 100000 in
set_option maxHeartbeats 16000000 in
theorem walk (ca : Option Addr) (cc : Nat) (bs : List Int) (w : World) (hm1 : bs.length ≤ maxLen) (hb : bs.length ≤ 4096 → ByteP w.heap.size ca bs w) :
    Calls Try.prog 6 #[.slice ca bs.length cc] w fun e w' => e = .returned (.bool true) ∧ Below w.heap.size w w' := by
  by_cases hl : 4096 < (bs.length : Int)
  · have HL : decide (4096 < (bs.length : Int)) = true := by simpa using hl
    clear hb hl
    go_enter Try.func6, Try.ntmps6
    go_wp2_with fail
    refine (f6big_c ca _ cc _ hm1).mono ?_
    rintro e w1 ⟨rfl, rfl⟩
    rw [HL]
    go_wp2
    go_ret
    exact ⟨rfl, Below.refl _ _⟩
  have HB := Lib.hid (hb (by omega))
  have HL : decide (4096 < (bs.length : Int)) = false := by simp; omega
  clear hb hl
  go_enter Try.func6, Try.ntmps6
  go_wp2_with fail
  refine (f6big_c ca _ cc _ hm1).mono ?_
  rintro e w1 ⟨rfl, rfl⟩
  rw [HL]
  clear hm1 HL
  have F0 := Fr.start w
  have HBw1 := Lib.hid (byteP_up (HB.out.keep (fun k hk => F0.below.block k hk)) F0.below.size)
  go_wp2_with fail
  refine (DrawStopClock_c ca cc bs _ HBw1.out).mono ?_
  rintro e w1 ⟨x, a, c, n, rfl, hr, hlw1, hb⟩
  have Gw1 := fr_row (F0.step hb) hr.row
  have Fw1 := Gw1.alloc (x.cells a c) 53
  have HLw1 := Lib.hid hlw1
  clear hb hr hlw1 HBw1 F0 Gw1
  obtain ⟨y, hy⟩ : ∃ y, y = stopP x n := ⟨_, rfl⟩
  have HP1 := fun W h => iStopClock_c x a c n W h (by have := HLw1.out; omega)
  have HP2 := fun W h => sStopClock_c x a c n W h (by have := HLw1.out; omega)
  rw [← hy] at HP1 HP2
  have HP1 := Lib.hid HP1
  have HP2 := Lib.hid HP2
  have HYL : Hid (y.1.left.length ≤ 1048576) := by unfold Hid; rw [hy]; exact stopP_len x n
  have HPH : Hid (y.2 = 0 → ∃ p q p' q', RunOk x n p q ∧ StopOk x n p q y.1 p' q') := by
    intro h
    rw [hy] at h ⊢
    exact stopped_hold h
  clear hy
  go_wp2_with fail
  refine (HP1.out _ (Fw1.at 1 rfl).1).mono ?_
  rintro e w2 ⟨ay, cy, rfl, ho, hb⟩
  have Gw2 := fr_row (Fw1.step hb) (own_row ho)
  obtain ⟨x0, x1, x2, x3, x4, x5, x6⟩ := Ck.boxc (Gw2.at 1 rfl)
  have zx : w1.heap.size < w2.heap.size := Gw2.le 1 rfl
  have Fw2 := Gw2.alloc (y.1.cells ay cy) 53
  clear hb ho Fw1 Gw2 HP1
  go_wp2_with fail
  refine (HP2.out _ (Fw2.at 3 rfl).1).mono ?_
  rintro e w3 ⟨az, cz, rfl, ho, hb⟩
  have Gw3 := fr_row (Fw2.step hb) (own_row ho)
  clear x0 x1 x2 x3 x4 x5 x6 zx
  have Fw3 := Gw3.alloc (y.1.cells az cz) 53
  clear hb ho Fw2 Gw3 HP2
  have HBw4 := Lib.hid (byteP_up (HB.out.keep (fun k hk => Fw3.below.block k hk)) Fw3.below.size)
  go_wp2_with fail
  refine (DrawStartClock_c ca cc bs _ HBw4.out).mono ?_
  rintro e w4 ⟨d, da, dc, m, rfl, hr, hlw4, hb⟩
  have Gw4 := fr_row (Fw3.step hb) hr.row
  have Fw4 := Gw4.alloc (d.cells da dc) 53
  have HLw4 := Lib.hid hlw4
  clear hb hr hlw4 HBw4 Fw3 Gw4
  obtain ⟨s, hs⟩ : ∃ s, s = startCk d m := ⟨_, rfl⟩
  have HS1 := fun W h => iStartClock_c d da dc m W h (by have := HLw4.out; omega)
  have HS2 := fun W h => sStartClock_c d da dc m W h (by have := HLw4.out; omega)
  rw [← hs] at HS1 HS2
  have HS1 := Lib.hid HS1
  have HS2 := Lib.hid HS2
  have HSL : Hid (s.1.left.length ≤ 2) := by
    unfold Hid
    rw [hs]
    unfold startCk
    split
    · exact HLw4.out
    · simp [Ck.zero]
  clear hs
  go_wp2_with fail
  refine (HS1.out _ (Fw4.at 1 rfl).1).mono ?_
  rintro e w5 ⟨as_, cs, rfl, ho, hb⟩
  have Gw5 := fr_row (Fw4.step hb) (own_row ho)
  obtain ⟨d0, d1, d2, d3, d4, d5, d6⟩ := Ck.boxc (Gw5.at 1 rfl)
  have zd : w4.heap.size < w5.heap.size := Gw5.le 1 rfl
  have Fw5 := Gw5.alloc (s.1.cells as_ cs) 53
  clear hb ho Fw4 Gw5 HS1
  go_wp2_with fail
  refine (HS2.out _ (Fw5.at 3 rfl).1).mono ?_
  rintro e w6 ⟨at_, ct, rfl, ho, hb⟩
  have Gw6 := fr_row (Fw5.step hb) (own_row ho)
  clear d0 d1 d2 d3 d4 d5 d6 zd
  have Fw6 := Gw6.alloc (s.1.cells at_ ct) 53
  clear hb ho Fw5 Gw6 HS2
  have HBw7 := Lib.hid (byteP_up (HB.out.keep (fun k hk => Fw6.below.block k hk)) Fw6.below.size)
  go_wp2_with fail
  refine (DrawAddTime_c ca cc bs _ HBw7.out).mono ?_
  rintro e w7 ⟨g, ga, gc, pl, tm, rfl, htm, hr, hlw7, hb⟩
  have Gw7 := fr_row (Fw6.step hb) hr.row
  have Fw7 := Gw7.alloc (g.cells ga gc) 53
  have HLw7 := Lib.hid hlw7
  clear hb hr hlw7 HBw7 Fw6 Gw7
  obtain ⟨u, hu⟩ : ∃ u, u = addP g pl tm := ⟨_, rfl⟩
  have HA1 := fun W h => iAddTime_c g ga gc pl tm W h (by have := HLw7.out; omega)
  have HA2 := fun W h => sAddTime_c g ga gc pl tm W h (by have := HLw7.out; omega)
  rw [← hu] at HA1 HA2
  have HA1 := Lib.hid HA1
  have HA2 := Lib.hid HA2
  have HUL : Hid (u.1.left.length ≤ 2) := by unfold Hid; rw [hu]; exact addP_len g pl tm
  have HUB : Hid (u.2 = 0 → addP u.1 pl (-tm) = (g, 0)) := by
    intro h
    rw [hu] at h ⊢
    exact added_hold h
  clear hu
  go_wp2_with fail
  refine (HA1.out _ (Fw7.at 1 rfl).1).mono ?_
  rintro e w8 ⟨au, cu, rfl, ho, hb⟩
  have Gw8 := fr_row (Fw7.step hb) (own_row ho)
  obtain ⟨g0, g1, g2, g3, g4, g5, g6⟩ := Ck.boxc (Gw8.at 1 rfl)
  have zg : w7.heap.size < w8.heap.size := Gw8.le 1 rfl
  have Fw8 := Gw8.alloc (u.1.cells au cu) 53
  clear hb ho Fw7 Gw8 HA1
  go_wp2_with fail
  refine (HA2.out _ (Fw8.at 3 rfl).1).mono ?_
  rintro e w9 ⟨av, cv, rfl, ho, hb⟩
  have Gw9 := fr_row (Fw8.step hb) (own_row ho)
  clear g0 g1 g2 g3 g4 g5 g6 zg
  obtain ⟨y0, y1, y2, y3, y4, y5, y6⟩ := Ck.boxc (Gw9.at 13 rfl)
  have zy : w2.heap.size < w9.heap.size := Gw9.le 13 rfl
  obtain ⟨z0, z1, z2, z3, z4, z5, z6⟩ := Ck.boxc (Gw9.at 11 rfl)
  have zz : w3.heap.size < w9.heap.size := Gw9.le 11 rfl
  have Fw9 := Gw9.alloc (u.1.cells av cv) 53
  clear hb ho Fw8 Gw9 HA2
  go_wp2_with fail
  refine (sSameClock_c y.1 ay az cy cz _ (Fw9.at 15 rfl).1 (Fw9.at 13 rfl).1 (by have := HYL.out; unfold maxLen; omega)).mono ?_
  rintro e w10 ⟨rfl, hb⟩
  have Fw10 := Fw9.step hb
  clear y0 y1 y2 y3 y4 y5 y6 zy z0 z1 z2 z3 z4 z5 z6 zz
  obtain ⟨s0, s1, s2, s3, s4, s5, s6⟩ := Ck.boxc (Fw10.at 8 rfl)
  have zs : w5.heap.size < w10.heap.size := Fw10.le 8 rfl
  obtain ⟨t0, t1, t2, t3, t4, t5, t6⟩ := Ck.boxc (Fw10.at 6 rfl)
  have zt : w6.heap.size < w10.heap.size := Fw10.le 6 rfl
  clear hb Fw9
  go_wp2_with fail
  refine (sSameClock_c s.1 as_ at_ cs ct _ (Fw10.at 9 rfl).1 (Fw10.at 7 rfl).1 (by have := HSL.out; unfold maxLen; omega)).mono ?_
  rintro e w11 ⟨rfl, hb⟩
  have Fw11 := Fw10.step hb
  clear s0 s1 s2 s3 s4 s5 s6 zs t0 t1 t2 t3 t4 t5 t6 zt
  obtain ⟨u0, u1, u2, u3, u4, u5, u6⟩ := Ck.boxc (Fw11.at 2 rfl)
  have zu : w8.heap.size < w11.heap.size := Fw11.le 2 rfl
  obtain ⟨v0, v1, v2, v3, v4, v5, v6⟩ := Ck.boxc (Fw11.at 0 rfl)
  have zv : w9.heap.size < w11.heap.size := Fw11.le 0 rfl
  clear hb Fw10
  go_wp2_with fail
  refine (sSameClock_c u.1 au av cu cv _ (Fw11.at 3 rfl).1 (Fw11.at 1 rfl).1 (by have := HUL.out; unfold maxLen; omega)).mono ?_
  rintro e w12 ⟨rfl, hb⟩
  have Fw12 := Fw11.step hb
  clear u0 u1 u2 u3 u4 u5 u6 zu v0 v1 v2 v3 v4 v5 v6 zv
  obtain ⟨u0, u1, u2, u3, u4, u5, u6⟩ := Ck.boxc (Fw12.at 2 rfl)
  have zu : w8.heap.size < w12.heap.size := Fw12.le 2 rfl
  obtain ⟨g0, g1, g2, g3, g4, g5, g6⟩ := Ck.boxc (Fw12.at 4 rfl)
  have zg : w7.heap.size < w12.heap.size := Fw12.le 4 rfl
  obtain ⟨x0, x1, x2, x3, x4, x5, x6⟩ := Ck.boxc (Fw12.at 16 rfl)
  have zx : w1.heap.size < w12.heap.size := Fw12.le 16 rfl
  obtain ⟨y0, y1, y2, y3, y4, y5, y6⟩ := Ck.boxc (Fw12.at 14 rfl)
  have zy : w2.heap.size < w12.heap.size := Fw12.le 14 rfl
  clear hb Fw11
  go_upto_if 116 with fail
  go_cut [22, 23, 116] from 117 to 132 (fun s22 s23 s116 wx => Fr w wx [⟨w2.heap.size, w2.heap.size + 1, BoxP w2.heap.size (y.1.cells ay cy).toList⟩, ⟨0, w2.heap.size, RowA w2.heap.size ay y.1.left⟩, ⟨w1.heap.size, w1.heap.size + 1, BoxP w1.heap.size (x.cells a c).toList⟩, ⟨0, w1.heap.size, RowA w1.heap.size a x.left⟩])
  case first =>
    by_cases hu : u.2 = 0
    case neg =>
      have hu' : (u.2 == 0) = false := by simpa using hu
      clear hu HUB
      have FZ := Lib.hid (⟨Fw12.below, fun r hr => by
        simp only [List.mem_cons, List.not_mem_nil, or_false] at hr
        rcases hr with rfl | rfl | rfl | rfl
        · exact Fw12.res _ (List.mem_of_getElem? (i := 14) rfl)
        · exact Fw12.res _ (List.mem_of_getElem? (i := 15) rfl)
        · exact Fw12.res _ (List.mem_of_getElem? (i := 16) rfl)
        · exact Fw12.res _ (List.mem_of_getElem? (i := 17) rfl)⟩ : Fr w _ [⟨w2.heap.size, w2.heap.size + 1, BoxP w2.heap.size (y.1.cells ay cy).toList⟩, ⟨0, w2.heap.size, RowA w2.heap.size ay y.1.left⟩, ⟨w1.heap.size, w1.heap.size + 1, BoxP w1.heap.size (x.cells a c).toList⟩, ⟨0, w1.heap.size, RowA w1.heap.size a x.left⟩])
      clear Fw12
      go_wp2_with fail
      go_meet
      exact FZ.out
    have hu' : (u.2 == 0) = true := by simpa using hu
    have HA3 := fun W h => iAddTime_c u.1 au cu pl (-tm) W h (by have := HUL.out; omega)
    rw [HUB.out hu] at HA3
    have HA3 := Lib.hid HA3
    clear hu HUB
    go_wp2_with fail
    refine (HA3.out _ (Fw12.at 3 rfl).1).mono ?_
    rintro e w13 ⟨ab, cb, rfl, ho, hb⟩
    have Gw13 := fr_row (Fw12.step hb) (own_row ho)
    clear u0 u1 u2 u3 u4 u5 u6 zu g0 g1 g2 g3 g4 g5 g6 zg x0 x1 x2 x3 x4 x5 x6 zx y0 y1 y2 y3 y4 y5 y6 zy
    obtain ⟨g0, g1, g2, g3, g4, g5, g6⟩ := Ck.boxc (Gw13.at 5 rfl)
    have zg : w7.heap.size < w13.heap.size := Gw13.le 5 rfl
    have Fw13 := Gw13.alloc (g.cells ab cb) 53
    clear hb ho Fw12 Gw13 HA3
    go_wp2_with fail
    refine (sSameClock_c g ab ga cb gc _ (Fw13.at 1 rfl).1 (Fw13.at 7 rfl).1 (by have := HLw7.out; unfold maxLen; omega)).mono ?_
    rintro e w14 ⟨rfl, hb⟩
    have F14 := Fw13.step hb
    have FZ := Lib.hid (⟨F14.below, fun r hr => by
      simp only [List.mem_cons, List.not_mem_nil, or_false] at hr
      rcases hr with rfl | rfl | rfl | rfl
      · exact F14.res _ (List.mem_of_getElem? (i := 16) rfl)
      · exact F14.res _ (List.mem_of_getElem? (i := 17) rfl)
      · exact F14.res _ (List.mem_of_getElem? (i := 18) rfl)
      · exact F14.res _ (List.mem_of_getElem? (i := 19) rfl)⟩ : Fr w _ [⟨w2.heap.size, w2.heap.size + 1, BoxP w2.heap.size (y.1.cells ay cy).toList⟩, ⟨0, w2.heap.size, RowA w2.heap.size ay y.1.left⟩, ⟨w1.heap.size, w1.heap.size + 1, BoxP w1.heap.size (x.cells a c).toList⟩, ⟨0, w1.heap.size, RowA w1.heap.size a x.left⟩])
    clear hb F14 Fw13 g0 g1 g2 g3 g4 g5 g6 zg
    go_wp2_with fail
    go_meet
    exact FZ.out
  case rest =>
  have FX := hcut
  have HLx := HLw1
  by_cases hz : y.2 = 0
  case neg =>
    have hz' : (y.2 != 0) = true := by simpa using hz
    clear hz
    go_wp2
    go_ret
    exact ⟨rfl, FX.below⟩
  obtain ⟨p, q, p', q', hr, ho⟩ := HPH.out hz
  have HLK := fun W h => iLeftAt_c x a c x.player n W h (by have := HLw1.out; omega)
  rw [leftAt_run hr] at HLK
  have HVY := fun W h => ValidClock_c y.1 ay cy W h (by have := HYL.out; unfold maxLen; omega)
  rw [ho.ok] at HVY
  obtain ⟨_, hv0, hv1⟩ := leftQ_zero hr
  obtain ⟨v, hv⟩ : ∃ v, v = leftQ x p q n := ⟨_, rfl⟩
  obtain ⟨_, hxl, hp, hq, hi, hd, hs, hn, hpl, hrn, hfl⟩ := hr
  obtain ⟨hyl, hown, hok, hyr, hzero, hstart⟩ := ho
  rw [← hv] at hv0 hv1 hzero hown HLK
  have HST : Hid (y.1.fallen = false → ∀ W, Ints W ay y.1.left → Calls Try.prog 44 #[y.1.val ay cy, .int .i64 n] W (CkRes W ({ y.1 with running := true, since := n }, 0))) := by
    intro h W hW
    have := iStartClock_c y.1 ay cy n W hW (by have := HYL.out; omega)
    rw [hstart h] at this
    exact this
  clear hv HPH HYL HLw1 HLx hok hstart
  obtain ⟨xl, xi, xd, xp, xs, xr, xf⟩ := x
  obtain ⟨⟨yl, yi, yd, yp, ys, yr, yf⟩, yc⟩ := y
  dsimp only at hxl hp hq hi hd hs hn hpl hrn hfl hyl hown hzero hyr hz HLK HVY FX HST
  subst hxl hyl hz hrn hfl hyr
  have HLM := Lib.hid HLK
  have HVZ := Lib.hid HVY
  clear HLK HVY
  clear hp hq hi hd hs hn hv0 hv1
  obtain ⟨x0, x1, x2, x3, x4, x5, x6⟩ := Ck.boxc (FX.at 2 rfl)
  have zx := FX.le 2 rfl
  obtain ⟨y0, y1, y2, y3, y4, y5, y6⟩ := Ck.boxc (FX.at 0 rfl)
  have zy := FX.le 0 rfl
  dsimp only [List.length_cons, List.length_nil] at x0 y0
  rcases hpl with rfl | rfl <;> cases yf
  · have hown2 : p' = v := hown
    clear hown
    have HSU := Lib.hid (HST.out rfl)
    clear HST
    subst hown2
    clear hzero
    go_wp2_with fail
    refine (HLM.out _ (FX.at 3 rfl).1).mono ?_
    rintro e w15 ⟨rfl, hb⟩
    have F15 := FX.step hb
    clear x0 x1 x2 x3 x4 x5 x6 zx y0 y1 y2 y3 y4 y5 y6 zy
    obtain ⟨x0, x1, x2, x3, x4, x5, x6⟩ := Ck.boxc (F15.at 2 rfl)
    have zx : w1.heap.size < w15.heap.size := F15.le 2 rfl
    obtain ⟨y0, y1, y2, y3, y4, y5, y6⟩ := Ck.boxc (F15.at 0 rfl)
    have zy : w2.heap.size < w15.heap.size := F15.le 0 rfl
    dsimp only [List.length_cons, List.length_nil] at x0 y0
    obtain ⟨by_, oy, hay, hby, ky0, ky1⟩ := ints_two (F15.at 1 rfl).1
    subst hay
    clear hb FX HLM
    have e9 : (p' != p') = false := by simp
    go_wp2_with fail
    refine (HVZ.out _ (F15.at 1 rfl).1).mono ?_
    rintro e w16 ⟨rfl, hb⟩
    have F16 := F15.step hb
    clear x0 x1 x2 x3 x4 x5 x6 zx y0 y1 y2 y3 y4 y5 y6 zy ky0 ky1 hby
    obtain ⟨y0, y1, y2, y3, y4, y5, y6⟩ := Ck.boxc (F16.at 0 rfl)
    have zy : w2.heap.size < w16.heap.size := F16.le 0 rfl
    dsimp only [List.length_cons, List.length_nil] at y0
    clear hb F15
    go_wp2_with fail
    refine (HSU.out _ (F16.at 1 rfl).1).mono ?_
    rintro e w17 ⟨ak, ck, rfl, ho, hb⟩
    have G17 := fr_row (F16.step hb) (own_row ho)
    have F17 := G17.alloc (Ck.cells ⟨[p', q'], yi, yd, yp, n, true, false⟩ ak ck) 53
    have HS6 := f6ints_c ak (some ⟨by_, oy, none⟩) ck cy [p', q'] [p', q'] (w17.alloc (.cells (Ck.cells ⟨[p', q'], yi, yd, yp, n, true, false⟩ ak ck) 53)) (F17.at 1 rfl).1 (F17.at 3 rfl).1 (by unfold maxLen; simp) (by unfold maxLen; simp)
    rw [decide_eq_true rfl] at HS6
    have HS6 := Lib.hid HS6
    clear ho hb y0 y1 y2 y3 y4 y5 y6 zy F16
    obtain ⟨y0, y1, y2, y3, y4, y5, y6⟩ := Ck.boxc (G17.at 1 rfl)
    have zy : w2.heap.size < w17.heap.size := G17.le 1 rfl
    dsimp only [List.length_cons, List.length_nil] at y0
    go_wp2_with fail
    refine HS6.out.mono ?_
    rintro e w18 ⟨rfl, n18, rfl⟩
    go_wp2
    go_ret
    exact ⟨rfl, F17.below.trans (below_draws _ _ n18)⟩
  · have hown2 : p' = v := hown
    clear hown
    have hz1 : v = 0 := hzero rfl
    subst hown2
    clear hzero HST
    have hz2 : (p' == 0) = true := by rw [hz1]; rfl
    clear hz1
    go_wp2_with fail
    refine (HLM.out _ (FX.at 3 rfl).1).mono ?_
    rintro e w15 ⟨rfl, hb⟩
    have F15 := FX.step hb
    clear x0 x1 x2 x3 x4 x5 x6 zx y0 y1 y2 y3 y4 y5 y6 zy
    obtain ⟨x0, x1, x2, x3, x4, x5, x6⟩ := Ck.boxc (F15.at 2 rfl)
    have zx : w1.heap.size < w15.heap.size := F15.le 2 rfl
    obtain ⟨y0, y1, y2, y3, y4, y5, y6⟩ := Ck.boxc (F15.at 0 rfl)
    have zy : w2.heap.size < w15.heap.size := F15.le 0 rfl
    dsimp only [List.length_cons, List.length_nil] at x0 y0
    obtain ⟨by_, oy, hay, hby, ky0, ky1⟩ := ints_two (F15.at 1 rfl).1
    subst hay
    clear hb FX HLM
    have e9 : (p' != p') = false := by simp
    go_wp2_with fail
    refine (HVZ.out _ (F15.at 1 rfl).1).mono ?_
    rintro e w16 ⟨rfl, hb⟩
    have F16 := F15.step hb
    clear x0 x1 x2 x3 x4 x5 x6 zx y0 y1 y2 y3 y4 y5 y6 zy ky0 ky1 hby
    obtain ⟨y0, y1, y2, y3, y4, y5, y6⟩ := Ck.boxc (F16.at 0 rfl)
    have zy : w2.heap.size < w16.heap.size := F16.le 0 rfl
    dsimp only [List.length_cons, List.length_nil] at y0
    clear hb F15
    go_wp2
    go_ret
    exact ⟨rfl, F16.below⟩
  · have hown2 : q' = v := hown
    clear hown
    have HSU := Lib.hid (HST.out rfl)
    clear HST
    subst hown2
    clear hzero
    go_wp2_with fail
    refine (HLM.out _ (FX.at 3 rfl).1).mono ?_
    rintro e w15 ⟨rfl, hb⟩
    have F15 := FX.step hb
    clear x0 x1 x2 x3 x4 x5 x6 zx y0 y1 y2 y3 y4 y5 y6 zy
    obtain ⟨x0, x1, x2, x3, x4, x5, x6⟩ := Ck.boxc (F15.at 2 rfl)
    have zx : w1.heap.size < w15.heap.size := F15.le 2 rfl
    obtain ⟨y0, y1, y2, y3, y4, y5, y6⟩ := Ck.boxc (F15.at 0 rfl)
    have zy : w2.heap.size < w15.heap.size := F15.le 0 rfl
    dsimp only [List.length_cons, List.length_nil] at x0 y0
    obtain ⟨by_, oy, hay, hby, ky0, ky1⟩ := ints_two (F15.at 1 rfl).1
    subst hay
    clear hb FX HLM
    have e9 : (q' != q') = false := by simp
    go_wp2_with fail
    refine (HVZ.out _ (F15.at 1 rfl).1).mono ?_
    rintro e w16 ⟨rfl, hb⟩
    have F16 := F15.step hb
    clear x0 x1 x2 x3 x4 x5 x6 zx y0 y1 y2 y3 y4 y5 y6 zy ky0 ky1 hby
    obtain ⟨y0, y1, y2, y3, y4, y5, y6⟩ := Ck.boxc (F16.at 0 rfl)
    have zy : w2.heap.size < w16.heap.size := F16.le 0 rfl
    dsimp only [List.length_cons, List.length_nil] at y0
    clear hb F15
    go_wp2_with fail
    refine (HSU.out _ (F16.at 1 rfl).1).mono ?_
    rintro e w17 ⟨ak, ck, rfl, ho, hb⟩
    have G17 := fr_row (F16.step hb) (own_row ho)
    have F17 := G17.alloc (Ck.cells ⟨[p', q'], yi, yd, yp, n, true, false⟩ ak ck) 53
    have HS6 := f6ints_c ak (some ⟨by_, oy, none⟩) ck cy [p', q'] [p', q'] (w17.alloc (.cells (Ck.cells ⟨[p', q'], yi, yd, yp, n, true, false⟩ ak ck) 53)) (F17.at 1 rfl).1 (F17.at 3 rfl).1 (by unfold maxLen; simp) (by unfold maxLen; simp)
    rw [decide_eq_true rfl] at HS6
    have HS6 := Lib.hid HS6
    clear ho hb y0 y1 y2 y3 y4 y5 y6 zy F16
    obtain ⟨y0, y1, y2, y3, y4, y5, y6⟩ := Ck.boxc (G17.at 1 rfl)
    have zy : w2.heap.size < w17.heap.size := G17.le 1 rfl
    dsimp only [List.length_cons, List.length_nil] at y0
    go_wp2_with fail
    refine HS6.out.mono ?_
    rintro e w18 ⟨rfl, n18, rfl⟩
    go_wp2
    go_ret
    exact ⟨rfl, F17.below.trans (below_draws _ _ n18)⟩
  · have hown2 : q' = v := hown
    clear hown
    have hz1 : v = 0 := hzero rfl
    subst hown2
    clear hzero HST
    have hz2 : (q' == 0) = true := by rw [hz1]; rfl
    clear hz1
    go_wp2_with fail
    refine (HLM.out _ (FX.at 3 rfl).1).mono ?_
    rintro e w15 ⟨rfl, hb⟩
    have F15 := FX.step hb
    clear x0 x1 x2 x3 x4 x5 x6 zx y0 y1 y2 y3 y4 y5 y6 zy
    obtain ⟨x0, x1, x2, x3, x4, x5, x6⟩ := Ck.boxc (F15.at 2 rfl)
    have zx : w1.heap.size < w15.heap.size := F15.le 2 rfl
    obtain ⟨y0, y1, y2, y3, y4, y5, y6⟩ := Ck.boxc (F15.at 0 rfl)
    have zy : w2.heap.size < w15.heap.size := F15.le 0 rfl
    dsimp only [List.length_cons, List.length_nil] at x0 y0
    obtain ⟨by_, oy, hay, hby, ky0, ky1⟩ := ints_two (F15.at 1 rfl).1
    subst hay
    clear hb FX HLM
    have e9 : (q' != q') = false := by simp
    go_wp2_with fail
    refine (HVZ.out _ (F15.at 1 rfl).1).mono ?_
    rintro e w16 ⟨rfl, hb⟩
    have F16 := F15.step hb
    clear x0 x1 x2 x3 x4 x5 x6 zx y0 y1 y2 y3 y4 y5 y6 zy ky0 ky1 hby
    obtain ⟨y0, y1, y2, y3, y4, y5, y6⟩ := Ck.boxc (F16.at 0 rfl)
    have zy : w2.heap.size < w16.heap.size := F16.le 0 rfl
    dsimp only [List.length_cons, List.length_nil] at y0
    clear hb F15
    go_wp2
    go_ret
    exact ⟨rfl, F16.below⟩

set_option maxRecDepth 100000 in
theorem contract (H : Type) (enc : TypeId × Value → H) (W : World) (base : Nat) (args : Array Value) (ds gs : List (DataW H)) (before : List MemPlace)
    (hval : ∀ (j : Nat) t v, Try.f6.params[j]? = some t → args[j]? = some v → Value.okWide Try.prog W .any base t v)
    (hW : DataW.Whole enc Try.prog Try.f6.params.toList Rows.fnStoppedSpec.vars false W args.toList ds gs before) :
    Calls Try.prog 6 args W fun e W' => ∃ v, e = .returned v ∧ Rows.fnStoppedSpec.post enc Try.prog Try.f6 false true false false W args v W' := by
  have hW' := hW
  obtain ⟨p, q, hA0, hV, rfl, hfz, hnd⟩ := hW
  have hA : DataW.TrodAll enc Try.prog W 0 (fun _ => true) true Try.f6.params.toList args.toList ds p := hA0
  rw [Try.params6] at hA hval
  obtain ⟨v0, vs0, d0, ds0, p0, q0, hargs, rfl, rfl, h0, r0⟩ := trodAll_cons hA
  obtain ⟨rfl, rfl, rfl⟩ := trodAll_nil r0
  obtain rfl : args = #[v0] := by cases args; simp_all
  obtain ⟨ba0, bc0, bs0, rfl, w0⟩ := arg_bytes (hval 0 22 v0 rfl rfl) h0
  refine (walk ba0 bc0 bs0 W w0.2.1 w0.2.2.2).mono fun e W' ⟨he, hb⟩ => ?_
  subst he
  exact ⟨_, rfl, law_post hW' hb rfl rfl (by kernel_rfl) rfl⟩

set_option maxRecDepth 100000 in
theorem lifted (os : Os) (started : os.Started) (H : Type) (enc : TypeId × Value → H) :
    ReturnsInHanded {} Try.checked os 6 .any (Rows.fnStoppedSpec.pre6 enc Try.prog Try.f6 Rows.fnStoppedRow.domain false) (Rows.fnStoppedSpec.post enc Try.prog Try.f6 false true false false) := by
  refine returnsInHanded_of_change (C := Try.checked) (s := Rows.fnStoppedSpec) own started (by kernel_rfl) Try.func6
    (ChangeSpec.witness6 (enc := enc) (C := Try.checked) (s := Rows.fnStoppedSpec) false ⟨#[], #[.slice none 0 0], []⟩ 8 (by kernel_rfl) (by kernel_rfl) (by kernel_rfl) (by kernel_rfl)) ?_
  intro W base args ds gs before hval hW _ _
  exact contract H enc W base args ds gs before hval hW

theorem proved : Rows.FnStoppedSaid :=
  OpenClaim.holds_of_wide 6 Try.f6 rfl rfl rfl rfl rfl rfl rfl ⟨rfl, rfl, rfl, rfl, rfl⟩ rfl rfl rfl rfl rfl (by kernel_rfl) Try.func6 (by kernel_rfl)
    (of_decide_eq_true (by kernel_rfl)) (by unfold Func.isWrapper; first | (rw [if_pos (by decide +kernel)]; kernel_rfl) | (rw [if_neg (by decide +kernel)]; exact ⟨rfl, rfl⟩))
    (fun os started H enc _ => lifted os started H enc)
end Go.Proofs.Ytbjdfgfebepacaa.lStopped
