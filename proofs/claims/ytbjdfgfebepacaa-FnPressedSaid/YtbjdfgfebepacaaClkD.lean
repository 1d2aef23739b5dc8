/- ClkD: clocks that are drawn. Each contract holds for every argument, under the premises that it states. -/
import Derived.Test.YtbjdfgfebepacaaClock9
import Derived.Test.YtbjdfgfebepacaaDraw1
import Derived.Deep.CutBlock
namespace Go.Proofs.Ytbjdfgfebepacaa
set_option linter.unusedSimpArgs false
set_option linter.unusedVariables false
set_option linter.unnecessarySimpa false
open Go.RowKit Go.ChangeShapes Go.WideShapes Go.ChangeAt Go.Joins

/-- the row of a clock lies in blocks from lo on -/
structure CkRow (w : World) (lo : Nat) (a : Option Addr) (x : Ck) : Prop where
  row : Ints w a x.left
  low : ∀ b o s, a = some ⟨b, o, s⟩ → 0 < x.left.length → lo ≤ b
theorem CkRow.chg {w w' : World} {lo b e : Nat} {a : Option Addr} {x : Ck} (h : CkRow w lo a x) (hc : Chg b e w w') (he : e ≤ lo) : CkRow w' lo a x :=
  ⟨fun j v hv => by
    obtain ⟨bk, o, ha, hcl⟩ := h.row j v hv
    have hl : j < (x.left.map (Value.int .i64)).length := (List.getElem?_eq_some_iff.1 hv).1
    have h1 := h.low bk o none ha (by simp at hl; omega)
    exact ⟨bk, o, ha, cell_stab hcl (hc.block bk (World.block_lt_of_cell? w _ hcl) (.inr (by omega)))⟩, h.low⟩
theorem CkRow.le {w : World} {lo lo' : Nat} {a : Option Addr} {x : Ck} (h : CkRow w lo a x) (hl : lo' ≤ lo) : CkRow w lo' a x := ⟨h.row, fun b o s e hp => Nat.le_trans hl (h.low b o s e hp)⟩
theorem CkRow.own {w : World} {lo c : Nat} {a : Option Addr} {x : Ck} (h : OwnI w lo a c x.left) : CkRow w lo a x := ⟨own_row h, fun b o s e hp => by
  obtain ⟨g, hg, h1, _⟩ := own_lt_n h hp
  rw [e] at hg; cases hg; exact h1⟩
@[reducible] def ckZero : Array Value := #[.slice none 0 0, .int .i64 0, .int .i64 0, .int .i64 0, .int .i64 0, .bool false, .bool false]
theorem own_lit2 (w : World) (l q : Int) {g : Nat} (hg : g = w.heap.size) : OwnI (w.alloc (.cells #[.int .i64 l, .int .i64 q] 2)) g (some ⟨g, 0, none⟩) 2 [l, q] := by
  subst hg
  exact World.ownsRow_lit w #[.int .i64 l, .int .i64 q] 2 (Nat.le_refl _) (by unfold maxLen; omega) rfl
set_option maxHeartbeats 4000000 in
theorem sNewClock_c (l i d : Int) (w : World) (hl : 1 ≤ l ∧ l ≤ 36000000) (hi : 0 ≤ i ∧ i ≤ 36000000) (hd : 0 ≤ d ∧ d ≤ 36000000) :
    Calls Try.prog 196 #[.int .i64 l, .int .i64 i, .int .i64 d] w (CkRes w (⟨[l, l], i, d, 0, 0, false, false⟩, 0)) := by
  have h1 : inB l 1 36000000 = true := inB_iff.2 hl
  have h2 : isT i = true := isT_iff.2 hi
  have h3 : isT d = true := isT_iff.2 hd
  clear hl hi hd
  go_enter Try.func196, Try.ntmps196
  go_wp2_with (first
    | (go_at_call 104; refine (l00In_c _ _ _ _).mono ?_; rintro e w' ⟨rfl, rfl⟩; rw [h1])
    | (go_at_call 175; refine (l23Time_c _ _).mono ?_; rintro e w' ⟨rfl, rfl⟩; first | rw [h2] | rw [h3]))
  refine bodyPost_ret (v := .tuple #[(Ck.mk [l, l] i d 0 0 false false).val (some ⟨w.heap.size + 1, 0, none⟩) 2, .int .i64 0]) (by simp [results, Try.results196, go_sem, Ck.val, Ck.cells]) rfl ?_
  refine ⟨some ⟨w.heap.size + 1, 0, none⟩, 2, rfl, ?_, ?_⟩
  · exact ownsRow_le (own_lit2 _ l l (by simp)) (by omega)
  · exact below_alloc2 _ _ _
theorem startCk_new (l i d now : Int) (hl : 1 ≤ l ∧ l ≤ 36000000) (hi : 0 ≤ i ∧ i ≤ 36000000) (hd : 0 ≤ d ∧ d ≤ 36000000) (hn : 0 ≤ now ∧ now ≤ 36000000) : (startCk ⟨[l, l], i, d, 0, 0, false, false⟩ now).1.left = [l, l] := by
  have h1 : isT l = true := isT_iff.2 (by omega)
  have h2 : isT i = true := isT_iff.2 hi
  have h3 : isT d = true := isT_iff.2 hd
  have h4 : inB now 0 36000000 = true := inB_iff.2 hn
  have h5 : isT 0 = true := by decide
  have h6 : inB 0 0 1 = true := by decide
  have h7 : decide (0 < l) = true := by simp; omega
  have hok : (Ck.mk [l, l] i d 0 0 false false).ok = true := by simp [Ck.ok, Ck.first, Ck.rest, h1, h2, h3, h5, h6]; omega
  simp [startCk, Ck.code, hok, h4]
theorem pressP_two {x : Ck} {now : Int} (h : (pressP x now).2 = 0) : (pressP x now).1.left.length = 2 := by
  unfold pressP at h ⊢
  split
  · rename_i h1
    obtain ⟨p, q, hl, _⟩ := charged_parts h1.1
    unfold pressU
    rw [hl]
    exact set2_len _ _ _ _
  · rename_i h1
    rw [if_neg h1] at h
    obtain ⟨p, q, hl, _⟩ := charged_parts h
    rw [hl]; rfl
theorem stopP_two {x : Ck} {now : Int} (h : (stopP x now).2 = 0) : (stopP x now).1.left.length = 2 := by
  unfold stopP at h ⊢
  split
  · rename_i h1
    obtain ⟨p, q, hl, _⟩ := charged_parts h1
    show (chargedP x now).1.left.length = 2
    rw [hl]; rfl
  · rename_i h1
    rw [if_neg h1] at h
    exact absurd h h1

/-- a clock while it is drawn: it stands in box B -/
structure ClSt (w wr : World) (base b m B : Nat) (x : Ck) (a : Option Addr) (c : Nat) : Prop where
  box : Bx B (x.cells a c).toList wr
  own : OwnI wr (w.heap.size + 1) a c x.left
  ap : ∀ k, (Value.slice a x.left.length c).ownBlock = some k → ¬ k = B
  res : Bx w.heap.size ckZero.toList wr
  src : SrcP base b m wr
  chg : Chg b (b + 1) w wr
  hS : w.heap.size < B
  hb : b < w.heap.size
  hbase : base ≤ b
theorem ClSt.step {w wr wn : World} {base b m m' B c : Nat} {x : Ck} {a : Option Addr} (h : ClSt w wr base b m B x a c) (hc : Chg b (b + 1) wr wn) (hs : SrcP base b m' wn) : ClSt w wn base b m' B x a c := by
  have hl := h.box.lt (by simp [Ck.cells])
  have hl2 := h.res.lt (by simp [ckZero])
  have h1 := h.hS
  have h2 := h.hb
  exact ⟨h.box.chg hc hl (by omega), own_stab (Nat.le_refl _) h.own (fun k hk => (h.own.lt k hk).2) (fun k k1 k2 => hc.block k k2 (.inr (by omega))), h.ap, h.res.chg hc hl2 (by omega), hs, h.chg.trans hc, h1, h2, h.hbase⟩
theorem ClSt.below {w wr wn : World} {base b m B c : Nat} {x : Ck} {a : Option Addr} (h : ClSt w wr base b m B x a c) (hb : Below wr.heap.size wr wn) : ClSt w wn base b m B x a c := h.step (Chg.ofBelow hb) (h.src.below hb)
theorem ClSt.mono {w wr : World} {base b m m' B c : Nat} {x : Ck} {a : Option Addr} (h : ClSt w wr base b m B x a c) (hm : m ≤ m') : ClSt w wr base b m' B x a c := h.step (Chg.refl _ _ _) (h.src.mono hm)
/-- another clock is stored into the box -/
theorem ClSt.store {w wr : World} {base b m B c d : Nat} {x y : Ck} {a e : Option Addr} (h : ClSt w wr base b m B x a c) (ho : OwnI wr (w.heap.size + 1) e d y.left) (ha : ∀ k, (Value.slice e y.left.length d).ownBlock = some k → ¬ k = B) :
    ClSt w (((((((wr.setCell ⟨B, 0, none⟩ (.slice e y.left.length d)).setCell ⟨B, 1, none⟩ (.int .i64 y.inc)).setCell ⟨B, 2, none⟩ (.int .i64 y.delay)).setCell ⟨B, 3, none⟩ (.int .i64 y.player)).setCell ⟨B, 4, none⟩ (.int .i64 y.since)).setCell ⟨B, 5, none⟩ (.bool y.running)).setCell ⟨B, 6, none⟩ (.bool y.fallen)) base b m B y e d := by
  have h1 := h.hS
  have h2 := h.hb
  have key : ∀ (W : World) (o : Nat) (v : Value), OwnI W (w.heap.size + 1) e d y.left → OwnI (W.setCell ⟨B, o, none⟩ v) (w.heap.size + 1) e d y.left := fun W o v hW => ownsRow_setCell_other hW (fun hk => ha B hk rfl) _
  have hx := h.box.sets_all (vs := (y.cells e d).toList) (by simp [Ck.cells])
  have hch := chg_sets B (y.cells e d).toList 0 wr
  refine ⟨hx, key _ _ _ (key _ _ _ (key _ _ _ (key _ _ _ (key _ _ _ (key _ _ _ (key _ _ _ ho)))))), ha, ?_, ?_, ?_, h1, h2, h.hbase⟩
  · exact h.res.chg hch (h.res.lt (by simp [ckZero])) (by omega)
  · exact h.src.chg hch (by have := h.hbase; omega) (.inl (by omega))
  · exact ⟨hch.os.trans h.chg.os, hch.tape.trans h.chg.tape, hch.output.trans h.chg.output, Nat.le_trans h.chg.size hch.size, fun k hk hn => (hch.block k (Nat.lt_of_lt_of_le hk h.chg.size) (.inl (by omega))).trans (h.chg.block k hk hn)⟩

theorem ClSt.far {w wr wn : World} {base b m B c N : Nat} {x : Ck} {a : Option Addr} (h : ClSt w wr base b m B x a c) (hc : Chg N (N + 1) wr wn) (hB : B < N) (hN : N ≤ wr.heap.size) (hr : ∀ k, (Value.slice a x.left.length c).ownBlock = some k → k < N) : ClSt w wn base b m B x a c := by
  have h1 := h.hS
  have h2 := h.hb
  have h3 := h.hbase
  refine ⟨h.box.chg hc (h.box.lt (by simp [Ck.cells])) (.inl hB), own_stab (Nat.le_refl _) h.own hr (fun k k1 k2 => ?_), h.ap, h.res.chg hc (h.res.lt (by simp [ckZero])) (.inl (by omega)), h.src.chg hc (by omega) (.inl (by omega)), ?_, h1, h2, h3⟩
  · exact hc.block k (by omega) (.inl k2)
  · exact ⟨hc.os.trans h.chg.os, hc.tape.trans h.chg.tape, hc.output.trans h.chg.output, Nat.le_trans h.chg.size hc.size, fun k hk hn => (hc.block k (Nat.lt_of_lt_of_le hk h.chg.size) (.inl (by omega))).trans (h.chg.block k hk hn)⟩
/-- the same, with a second clock in box N -/
structure NxSt (w wr : World) (base b m B : Nat) (x : Ck) (a : Option Addr) (c N lo : Nat) (u : Ck) (e : Option Addr) (d : Nat) : Prop where
  cl : ClSt w wr base b m B x a c
  nb : Bx N (u.cells e d).toList wr
  own : OwnI wr lo e d u.left
  ap : ∀ k, (Value.slice e u.left.length d).ownBlock = some k → ¬ k = N
  far : ∀ k, (Value.slice a x.left.length c).ownBlock = some k → k < N
  hN : B < N
  hl : b < lo
theorem NxSt.step {w wr wn : World} {base b m m' B c N lo d : Nat} {x u : Ck} {a e : Option Addr} (h : NxSt w wr base b m B x a c N lo u e d) (hc : Chg b (b + 1) wr wn) (hs : SrcP base b m' wn) : NxSt w wn base b m' B x a c N lo u e d := by
  have h1 := h.hN
  have h2 := h.cl.hS
  have h3 := h.cl.hb
  have h4 := h.hl
  exact ⟨h.cl.step hc hs, h.nb.chg hc (h.nb.lt (by simp [Ck.cells])) (.inr (by omega)), own_stab (Nat.le_refl _) h.own (fun k hk => (h.own.lt k hk).2) (fun k k1 k2 => hc.block k k2 (.inr (by omega))), h.ap, h.far, h1, h4⟩
theorem NxSt.below {w wr wn : World} {base b m B c N lo d : Nat} {x u : Ck} {a e : Option Addr} (h : NxSt w wr base b m B x a c N lo u e d) (hb : Below wr.heap.size wr wn) : NxSt w wn base b m B x a c N lo u e d := h.step (Chg.ofBelow hb) (h.cl.src.below hb)
theorem NxSt.store {w wr : World} {base b m B c N lo d f : Nat} {x u y : Ck} {a e g : Option Addr} (h : NxSt w wr base b m B x a c N lo u e d) (ho : OwnI wr lo g f y.left) (ha : ∀ k, (Value.slice g y.left.length f).ownBlock = some k → ¬ k = N) :
    NxSt w (((((((wr.setCell ⟨N, 0, none⟩ (.slice g y.left.length f)).setCell ⟨N, 1, none⟩ (.int .i64 y.inc)).setCell ⟨N, 2, none⟩ (.int .i64 y.delay)).setCell ⟨N, 3, none⟩ (.int .i64 y.player)).setCell ⟨N, 4, none⟩ (.int .i64 y.since)).setCell ⟨N, 5, none⟩ (.bool y.running)).setCell ⟨N, 6, none⟩ (.bool y.fallen)) base b m B x a c N lo y g f := by
  have key : ∀ (W : World) (o : Nat) (v : Value), OwnI W lo g f y.left → OwnI (W.setCell ⟨N, o, none⟩ v) lo g f y.left := fun W o v hW => ownsRow_setCell_other hW (fun hk => ha N hk rfl) _
  have hx := h.nb.sets_all (vs := (y.cells g f).toList) (by simp [Ck.cells])
  have hch := chg_sets N (y.cells g f).toList 0 wr
  exact ⟨h.cl.far hch h.hN (Nat.le_of_lt (h.nb.lt (by simp [Ck.cells]))) h.far, hx, key _ _ _ (key _ _ _ (key _ _ _ (key _ _ _ (key _ _ _ (key _ _ _ (key _ _ _ ho)))))), ha, h.far, h.hN, h.hl⟩

set_option maxRecDepth 100000 in
set_option maxHeartbeats 16000000 in
theorem l23Draw_c (base b m : Nat) (w : World) (h : SrcP base b m w) (hm : m ≤ 1000000) (hB : base ≤ b) (hbl : b < w.heap.size) :
    Calls Try.prog 176 #[.pointer (some ⟨b, 0, none⟩)] w fun e w' => ∃ (x : Ck) (a : Option Addr) (c : Nat), e = .returned (x.val a c) ∧ x.left.length = 2 ∧ OwnI w' w.heap.size a c x.left ∧ SrcP base b (m + 40) w' ∧ Chg b (b + 1) w w' := by
  have S0 := Lib.hid (h.below (below_alloc1 w (.cells ckZero 53)))
  have R0 := Bx.alloc w ckZero 53 rfl
  have C0 := Chg.ofBelow (lo := b) (hi := b + 1) (below_alloc1 w (.cells ckZero 53))
  clear h
  go_enter Try.func176, Try.ntmps176
  go_wp2_with fail
  refine (pick_c base b m 60000 _ S0.out (by omega) (by omega)).mono ?_
  rintro e w1 ⟨v1, rfl, p1, q1, hs1, hc1⟩
  have z1 : w.heap.size + 1 ≤ w1.heap.size := by have := hc1.size; simpa using this
  have R1 := R0.chg hc1 (by simp) (by omega)
  have C1 := C0.trans hc1
  have S1 := Lib.hid hs1
  clear hs1 hc1 R0 C0 S0
  go_wp2_with fail
  refine (pick_c base b _ 5 _ S1.out (by omega) (by omega)).mono ?_
  rintro e w2 ⟨v2, rfl, p2, q2, hs2, hc2⟩
  have z2 : w1.heap.size ≤ w2.heap.size := hc2.size
  have R2 := R1.chg hc2 (by omega) (by omega)
  have C2 := C1.trans hc2
  have S2 := Lib.hid hs2
  clear hs2 hc2 R1 C1 S1
  go_wp2_with fail
  refine (pick_c base b _ 3 _ S2.out (by omega) (by omega)).mono ?_
  rintro e w3 ⟨v3, rfl, p3, q3, hs3, hc3⟩
  have z3 : w2.heap.size ≤ w3.heap.size := hc3.size
  have R3 := R2.chg hc3 (by omega) (by omega)
  have C3 := C2.trans hc3
  have S3 := Lib.hid hs3
  clear hs3 hc3 R2 C2 S2
  go_wp2_with fail
  refine (sNewClock_c (1000 + v1) (v2 * 500) (v3 * 700) _ (by omega) (by omega) (by omega)).mono ?_
  rintro e w4 ⟨a, c, rfl, ho4, hb4⟩
  have z4 : w3.heap.size ≤ w4.heap.size := hb4.size
  have D4 : ClSt w (w4.alloc (.cells ((Ck.mk [1000 + v1, 1000 + v1] (v2 * 500) (v3 * 700) 0 0 false false).cells a c) 53)) base b (m + 2 + 2 + 2) w4.heap.size ⟨[1000 + v1, 1000 + v1], v2 * 500, v3 * 700, 0, 0, false, false⟩ a c :=
    ⟨Bx.alloc _ _ _ rfl, ownsRow_le (own_below ho4 (below_alloc1 _ _) (Nat.le_refl _)) (by omega), fun k hk => by have := (ho4.lt k hk).2; omega, (R3.below hb4 (by omega)).allocO (by omega) _ _, ((S3.out.below hb4).allocN _ _), (C3.step hb4).allocN _ _, by omega, hbl, hB⟩
  have HSP := fun now h => startCk_new (1000 + v1) (v2 * 500) (v3 * 700) now (by omega) (by omega) (by omega) h
  have HSP := Lib.hid HSP
  generalize hx4 : Ck.mk [1000 + v1, 1000 + v1] (v2 * 500) (v3 * 700) 0 0 false false = x4 at D4 HSP ⊢
  have HL4 : Hid (x4.left.length = 2) := by unfold Hid; rw [← hx4]; rfl
  have D4 := Lib.hid D4
  clear ho4 hb4 R3 S3 C3 p1 q1 p2 q2 p3 q3
  go_wp2_with fail
  refine (pick_c base b _ 100 _ D4.out.src (by omega) (by omega)).mono ?_
  rintro e w5 ⟨n, rfl, n0, n1, hs5, hc5⟩
  have D5 := Lib.hid (D4.out.step hc5 hs5)
  clear hs5 hc5 D4
  go_wp2_with fail
  refine (one_c base b _ 5 _ D5.out.src (by omega) (by omega)).mono ?_
  rintro e w6 ⟨f, rfl, hs6, hc6⟩
  have D6 := Lib.hid (D5.out.step hc6 hs6)
  clear hs6 hc6 D5
  go_upto_if 26 with fail
  go_cut [] from 27 to 32 (fun wx => ∃ (x : Ck) (a : Option Addr) (c : Nat), x.left.length = 2 ∧ ClSt w wx base b (m + 10) w4.heap.size x a c)
  case first =>
    cases f
    · have HS := sStartClock_c x4 a c n
      obtain ⟨y, hy⟩ : ∃ y, y = startCk x4 n := ⟨_, rfl⟩
      rw [← hy] at HS
      have HS := Lib.hid HS
      have HLY : Hid (y.1.left.length = 2) := by unfold Hid; rw [hy, HSP.out n (by omega)]; rfl
      clear hy
      obtain ⟨c0, c1, c2, c3, c4, c5, c6⟩ := Ck.boxc D6.out.box.box
      have lB : w4.heap.size < w6.heap.size := D6.out.box.lt (by simp [Ck.cells])
      go_wp2_with fail
      refine (HS.out w6 (own_row D6.out.own) (by have := HL4.out; omega)).mono ?_
      rintro e w7 ⟨a7, c7, rfl, ho7, hb7⟩
      have D7 := D6.out.below hb7
      have k7 := Ck.boxc D7.box.box
      obtain ⟨k0, k1, k2, k3, k4, k5, k6⟩ := k7
      have kf := D7.box.free
      have lB7 : w4.heap.size < w7.heap.size := by have := hb7.size; omega
      have D8 := Lib.hid (D7.store (y := y.1) (ownsRow_le ho7 (by have := D7.hS; omega)) (fun k hk => by have := (ho7.lt k hk).1; omega))
      clear c0 c1 c2 c3 c4 c5 c6 D7 ho7 hb7 HS D6
      go_wp2_with fail
      go_meet
      exact ⟨y.1, a7, c7, HLY.out, D8.out.mono (by omega)⟩
    · go_wp2_with fail
      go_meet
      exact ⟨x4, a, c, HL4.out, D6.out.mono (by omega)⟩
  case rest =>
  obtain ⟨x, a, c, hxl, D7⟩ := hcut
  have HXL := Lib.hid hxl
  clear hxl D6 HSP HL4 hx4
  go_wp2_with fail
  refine (pick_c base b _ 6 _ D7.src (by omega) (by omega)).mono ?_
  rintro e w8 ⟨k, rfl, k0, k1, hs8, hc8⟩
  obtain ⟨kn, rfl⟩ : ∃ kn : Nat, k = kn := ⟨k.toNat, by omega⟩
  have D8 := Lib.hid (D7.step hc8 hs8)
  clear hs8 hc8 D7
  go_wp2_with fail
  go_loopw [5, 6] (fun nw kk wr => ∃ (n : Int) (k : Nat) (x : Ck) (a : Option Addr) (c : Nat), nw = .int .i64 n ∧ kk = .int .i64 k ∧ 0 ≤ n ∧ n ≤ 100000 - 15000 * k ∧ k ≤ 5 ∧ Hid (x.left.length = 2) ∧ Hid (ClSt w wr base b (m + 12 + 4 * (5 - k)) w4.heap.size x a c)) (fun _ k _ => (intOf k).toNat)
  case atStart => exact ⟨n, kn, x, a, c, rfl, rfl, by omega, by omega, by omega, HXL, Lib.hid (D8.out.mono (by omega))⟩
  case round =>
    clear D8 HXL
    obtain ⟨n, k, x, a, c, rfl, rfl, n0, n1, k5, HXL, D⟩ := hrel
    by_cases hk : 0 < (k : Int)
    · go_wp2_with fail
      refine (pick_c base b _ 15000 _ D.out.src (by omega) (by omega)).mono ?_
      rintro e w9 ⟨v, rfl, v0, v1, hs9, hc9⟩
      have D9 := Lib.hid (D.out.step hc9 hs9)
      have nv : 0 ≤ n + v ∧ n + v ≤ 100000 - 15000 * (k - 1) := by omega
      clear hs9 hc9 D
      have HP := sPressClock_c x a c (n + v)
      have HQ := sStopClock_c x a c (n + v)
      obtain ⟨y, hy⟩ : ∃ y, y = pressP x (n + v) := ⟨_, rfl⟩
      obtain ⟨z, hz⟩ : ∃ z, z = stopP x (n + v) := ⟨_, rfl⟩
      rw [← hy] at HP
      rw [← hz] at HQ
      have HP := Lib.hid HP
      have HQ := Lib.hid HQ
      have HY : Hid (y.2 = 0 → y.1.left.length = 2) := by unfold Hid; rw [hy]; exact pressP_two
      have HZ : Hid (z.2 = 0 → z.1.left.length = 2) := by unfold Hid; rw [hz]; exact stopP_two
      clear hy hz
      obtain ⟨c0, c1, c2, c3, c4, c5, c6⟩ := Ck.boxc D9.out.box.box
      have lB : w4.heap.size < w9.heap.size := D9.out.box.lt (by simp [Ck.cells])
      go_wp2_with fail
      refine (HP.out w9 (own_row D9.out.own) (by have := HXL.out; omega)).mono ?_
      rintro e w10 ⟨ay, cy, rfl, ho10, hb10⟩
      have zz : w9.heap.size ≤ w10.heap.size := hb10.size
      have lo9 : b < w9.heap.size := by have := D9.out.chg.size; omega
      have N10 : NxSt w (w10.alloc (.cells (y.1.cells ay cy) 53)) base b (m + 12 + 4 * (5 - k) + 2) w4.heap.size x a c w10.heap.size w9.heap.size y.1 ay cy :=
        ⟨(D9.out.below hb10).below (below_alloc1 w10 (.cells (y.1.cells ay cy) 53)), Bx.alloc (n := w10.heap.size) w10 (y.1.cells ay cy) 53 rfl, own_below ho10 (below_alloc1 _ _) (Nat.le_refl _), fun k hk => by have := (ho10.lt k hk).2; omega, fun k hk => by have := (D9.out.own.lt k hk).2; omega, by omega, lo9⟩
      have N10 := Lib.hid N10
      clear c0 c1 c2 c3 c4 c5 c6 ho10 hb10 D9 HP
      go_wp2_with fail
      refine (one_c base b _ 6 _ N10.out.cl.src (by omega) (by omega)).mono ?_
      rintro e w11 ⟨f, rfl, hs11, hc11⟩
      have zz2 : w10.heap.size + 1 ≤ w11.heap.size := by have := hc11.size; simpa using this
      have N11 := Lib.hid (N10.out.step hc11 hs11)
      clear hs11 hc11 N10
      go_upto_if 50 with fail
      go_cut [8] from 51 to 56 (fun s8 wx => ∃ (u : Ck × Int) (au : Option Addr) (cu : Nat), s8 = .int .i64 u.2 ∧ Hid (u.2 = 0 → u.1.left.length = 2) ∧ Hid (NxSt w wx base b (m + 12 + 4 * (5 - k) + 2 + 2) w4.heap.size x a c w10.heap.size w9.heap.size u.1 au cu))
      case first =>
        cases f
        · go_wp2_with fail
          go_meet
          exact ⟨y, ay, cy, rfl, HY, N11⟩
        · obtain ⟨c0, c1, c2, c3, c4, c5, c6⟩ := Ck.boxc N11.out.cl.box.box
          have lB11 : w4.heap.size < w11.heap.size := by omega
          go_wp2_with fail
          refine (HQ.out w11 (own_row N11.out.cl.own) (by have := HXL.out; omega)).mono ?_
          rintro e w12 ⟨az, cz, rfl, ho12, hb12⟩
          have N12 := N11.out.below hb12
          obtain ⟨d0, d1, d2, d3, d4, d5, d6⟩ := Ck.boxc N12.nb.box
          have df := N12.nb.free
          have lN12 : w10.heap.size < w12.heap.size := by have := hb12.size; omega
          have N13 := Lib.hid (N12.store (y := z.1) (ownsRow_le ho12 (by omega)) (fun k hk => by have := (ho12.lt k hk).1; omega))
          clear c0 c1 c2 c3 c4 c5 c6 N12 ho12 hb12 N11
          go_wp2_with fail
          go_meet
          exact ⟨z, az, cz, rfl, HZ, N13⟩
      case rest =>
      obtain ⟨u, au, cu, rfl, HU, N14⟩ := hcut
      clear N11 HY HZ HQ
      by_cases hu : u.2 = 0
      · have hu' : (u.2 == 0) = true := by simpa using hu
        have HUL := Lib.hid (HU.out hu)
        obtain ⟨d0, d1, d2, d3, d4, d5, d6⟩ := Ck.boxc N14.out.nb.box
        obtain ⟨c0, c1, c2, c3, c4, c5, c6⟩ := Ck.boxc N14.out.cl.box.box
        have cf := N14.out.cl.box.free
        have D15 := Lib.hid (N14.out.cl.store (y := u.1) (ownsRow_le N14.out.own (by have := N14.out.cl.hS; omega)) (fun k hk => by have := (N14.out.own.lt k hk).1; omega))
        clear hu N14
        go_wp2_with fail
        go_roundw
        case rel => exact ⟨n + v, k - 1, u.1, au, cu, rfl, by go_num, by omega, by omega, by omega, HUL, Lib.hid (D15.out.mono (by omega))⟩
        case measure => simp [intOf]; omega
      · have hu' : (u.2 == 0) = false := by simpa using hu
        clear hu
        go_wp2_with fail
        go_roundw
        case rel => exact ⟨n + v, k - 1, x, a, c, rfl, by go_num, by omega, by omega, by omega, HXL, Lib.hid (N14.out.cl.mono (by omega))⟩
        case measure => simp [intOf]; omega
    · have hk0 : k = 0 := by omega
      subst hk0
      obtain ⟨c0, c1, c2, c3, c4, c5, c6⟩ := Ck.boxc D.out.box.box
      obtain ⟨r0, r1, r2, r3, r4, r5, r6⟩ := (⟨D.out.res.box 0 _ rfl, D.out.res.box 1 _ rfl, D.out.res.box 2 _ rfl, D.out.res.box 3 _ rfl, D.out.res.box 4 _ rfl, D.out.res.box 5 _ rfl, D.out.res.box 6 _ rfl⟩ : _ ∧ _ ∧ _ ∧ _ ∧ _ ∧ _ ∧ _)
      have rf := D.out.res.free
      have lR := D.out.res.lt (by simp [ckZero])
      have hRB : ¬ w.heap.size = w4.heap.size := by omega
      go_wp2_with fail
      refine bodyPost_ret (v := x.val a c) (by simp [results, Try.results176, go_sem, c0, c1, c2, c3, c4, c5, c6, r0, r1, r2, r3, r4, r5, r6, rf, lR, Ck.val, Ck.cells]) rfl ⟨x, a, c, rfl, HXL.out, ?_, ?_, ?_⟩
      · have k9 := D.out.own
        refine ownsRow_le (base := w.heap.size + 1) ?_ (by omega)
        repeat (first | (with_reducible exact k9) | ((with_reducible refine ownsRow_setCell_below ?_ ?_ _); rotate_left; (simp <;> omega)))
      · have k9 := D.out.src.mono (show _ ≤ m + 40 by omega)
        repeat (first | (with_reducible exact k9) | ((with_reducible refine SrcP.set ?_ _ ?_ ?_ rfl _); rotate_left; (simp; omega); (simp; omega)))
      · have k9 := D.out.chg
        repeat (first | (with_reducible exact k9) | ((with_reducible refine Chg.setNew ?_ _ ?_ _); rotate_left; (simp <;> omega)))

theorem CkRow.setD {w : World} {lo : Nat} {a : Option Addr} {x : Ck} (h : CkRow w lo a x) {p : Addr} (hp : p.block < lo) (v : Value) : CkRow (w.setCell p v) lo a x :=
  ⟨fun j u hu => by
    obtain ⟨bk, o, ha, hcl⟩ := h.row j u hu
    have hl : j < (x.left.map (Value.int .i64)).length := (List.getElem?_eq_some_iff.1 hu).1
    have h1 := h.low bk o none ha (by simp at hl; omega)
    exact ⟨bk, o, ha, (World.cell?_setCell_other _ _ _ _ (by intro e; rw [e] at hp; simp at hp; omega)).trans hcl⟩, h.low⟩
/-- what is known of a clock that is drawn, when it has been bent -/
structure BtSt (w wr : World) (base b m B : Nat) (x : Ck) (a : Option Addr) (c : Nat) : Prop where
  box : Bx B (x.cells a c).toList wr
  row : CkRow wr (w.heap.size + 1) a x
  len : x.left.length ≤ 2
  res : Bx w.heap.size ckZero.toList wr
  src : SrcP base b m wr
  chg : Chg b (b + 1) w wr
  hS : w.heap.size < B
  hb : b < w.heap.size
  hbase : base ≤ b
theorem ClSt.bt {w wr : World} {base b m B c : Nat} {x : Ck} {a : Option Addr} (h : ClSt w wr base b m B x a c) (hl : x.left.length = 2) : BtSt w wr base b m B x a c :=
  ⟨h.box, CkRow.own h.own, by omega, h.res, h.src, h.chg, h.hS, h.hb, h.hbase⟩
theorem BtSt.mono {w wr : World} {base b m m' B c : Nat} {x : Ck} {a : Option Addr} (h : BtSt w wr base b m B x a c) (hm : m ≤ m') : BtSt w wr base b m' B x a c := ⟨h.box, h.row, h.len, h.res, h.src.mono hm, h.chg, h.hS, h.hb, h.hbase⟩
/-- one field of the box is stored anew -/
theorem ClSt.field {w wr : World} {base b m B c o : Nat} {x y : Ck} {a : Option Addr} {v : Value} (h : ClSt w wr base b m B x a c) (hl : x.left.length = 2) (ho : o < 7) (hy : y.left = x.left) (he : (x.cells a c).toList.set o v = (y.cells a c).toList) : BtSt w (wr.setCell ⟨B, o, none⟩ v) base b m B y a c := by
  have h1 := h.hS
  have h2 := h.hb
  have hx := h.box.set (o := o) (by simpa [Ck.cells] using ho) v
  rw [he] at hx
  have hch : Chg B (B + 1) wr (wr.setCell ⟨B, o, none⟩ v) := chg_sets B [v] o wr
  have hown : OwnI (wr.setCell ⟨B, o, none⟩ v) (w.heap.size + 1) a c x.left := ownsRow_setCell_other h.own (fun hk => h.ap B hk rfl) _
  have hr := CkRow.own hown
  refine ⟨hx, ⟨by rw [hy]; exact hr.row, by rw [hy]; exact hr.low⟩, by rw [hy]; omega, h.res.chg hch (h.res.lt (by simp [ckZero])) (.inl (by omega)), h.src.chg hch (by have := h.hbase; omega) (.inl (by omega)), ?_, h1, h2, h.hbase⟩
  exact ⟨hch.os.trans h.chg.os, hch.tape.trans h.chg.tape, hch.output.trans h.chg.output, Nat.le_trans h.chg.size hch.size, fun k hk hn => (hch.block k (Nat.lt_of_lt_of_le hk h.chg.size) (.inl (by omega))).trans (h.chg.block k hk hn)⟩
/-- the first number of the row is stored anew -/
theorem ClSt.first {w wr : World} {base b m B c g : Nat} {p q : Int} {i d pl si : Int} {r f : Bool} (h : ClSt w wr base b m B ⟨[p, q], i, d, pl, si, r, f⟩ (some ⟨g, 0, none⟩) c) (v : Int) : BtSt w (wr.setCell ⟨g, 0, none⟩ (.int .i64 v)) base b m B ⟨[v, q], i, d, pl, si, r, f⟩ (some ⟨g, 0, none⟩) c := by
  have h1 := h.hS
  have h2 := h.hb
  have hg := h.own.lt g rfl
  have hgB := h.ap g rfl
  have hst := (h.own.stored 0 (.int .i64 v)).1
  have hch : Chg g (g + 1) wr (wr.setCell ⟨g, 0, none⟩ (.int .i64 v)) := chg_sets g [.int .i64 v] 0 wr
  have hr : CkRow (wr.setCell ⟨g, 0, none⟩ (.int .i64 v)) (w.heap.size + 1) (some ⟨g, 0, none⟩) ⟨[v, q], i, d, pl, si, r, f⟩ := CkRow.own hst
  refine ⟨h.box.other _ (fun e => hgB e) _, hr, Nat.le_refl _, h.res.other _ (by simp; omega) _, h.src.set _ (by simp; have := h.hbase; omega) (by simp; omega) rfl _, ?_, h1, h2, h.hbase⟩
  exact ⟨hch.os.trans h.chg.os, hch.tape.trans h.chg.tape, hch.output.trans h.chg.output, Nat.le_trans h.chg.size hch.size, fun k hk hn => (hch.block k (Nat.lt_of_lt_of_le hk h.chg.size) (.inl (by omega))).trans (h.chg.block k hk hn)⟩
theorem own_capC {w : World} {base size n c : Nat} {e : TypeId} {a : Option Addr} {vs : List Value} (h : w.ownsRow base e size (.slice a n c) n vs) : n ≤ c := by
  obtain ⟨_, ⟨h1, h2⟩ | ⟨g, cap, cur, hv, hb, hg, hn, hm, _⟩⟩ := h
  · cases h1; simp
  · cases hv; exact hn
/-- the row is cut behind its first number -/
theorem ClSt.cut {w wr : World} {base b m B c g : Nat} {p q : Int} {i d pl si : Int} {r f : Bool} (h : ClSt w wr base b m B ⟨[p, q], i, d, pl, si, r, f⟩ (some ⟨g, 0, none⟩) c) : BtSt w (wr.setCell ⟨B, 0, none⟩ (.slice (some ⟨g, 0, none⟩) 1 c)) base b m B ⟨[p], i, d, pl, si, r, f⟩ (some ⟨g, 0, none⟩) c := by
  have h1 := h.hS
  have h2 := h.hb
  have hx := h.box.set (o := 0) (by simp [Ck.cells]) (.slice (some ⟨g, 0, none⟩) 1 c)
  have hch : Chg B (B + 1) wr (wr.setCell ⟨B, 0, none⟩ (.slice (some ⟨g, 0, none⟩) 1 c)) := chg_sets B [.slice (some ⟨g, 0, none⟩) 1 c] 0 wr
  have hown : OwnI (wr.setCell ⟨B, 0, none⟩ (.slice (some ⟨g, 0, none⟩) 1 c)) (w.heap.size + 1) (some ⟨g, 0, none⟩) c [p, q] := ownsRow_setCell_other h.own (fun hk => h.ap B hk rfl) _
  have hr := own_row hown
  have hg := h.own.lt g rfl
  refine ⟨hx, ⟨fun j v hv => ?_, fun b o s e _ => by cases e; exact hg.1⟩, by simp, h.res.chg hch (h.res.lt (by simp [ckZero])) (.inl (by omega)), h.src.chg hch (by have := h.hbase; omega) (.inl (by omega)), ?_, h1, h2, h.hbase⟩
  · have hj : j = 0 := by
      have := (List.getElem?_eq_some_iff.1 hv).1
      simp at this; omega
    subst hj
    exact hr 0 v (by simpa using hv)
  · exact ⟨hch.os.trans h.chg.os, hch.tape.trans h.chg.tape, hch.output.trans h.chg.output, Nat.le_trans h.chg.size hch.size, fun k hk hn => (hch.block k (Nat.lt_of_lt_of_le hk h.chg.size) (.inl (by omega))).trans (h.chg.block k hk hn)⟩
set_option maxRecDepth 100000 in
set_option maxHeartbeats 16000000 in
theorem l23Bent_c (base b m : Nat) (w : World) (h : SrcP base b m w) (hm : m ≤ 100000) (hB : base ≤ b) (hbl : b < w.heap.size) :
    Calls Try.prog 122 #[.pointer (some ⟨b, 0, none⟩)] w fun e w' => ∃ (x : Ck) (a : Option Addr) (c : Nat), e = .returned (x.val a c) ∧ x.left.length ≤ 2 ∧ CkRow w' w.heap.size a x ∧ SrcP base b (m + 50) w' ∧ Chg b (b + 1) w w' := by
  have S0 := Lib.hid (h.below (below_alloc1 w (.cells ckZero 53)))
  have R0 := Bx.alloc w ckZero 53 rfl
  have C0 := Chg.ofBelow (lo := b) (hi := b + 1) (below_alloc1 w (.cells ckZero 53))
  clear h
  go_enter Try.func122, Try.ntmps122
  go_wp2_with fail
  refine (l23Draw_c base b m _ S0.out (by omega) hB (by simp; omega)).mono ?_
  rintro e w1 ⟨x, a, c, rfl, hxl, ho1, hs1, hc1⟩
  have z1 : w.heap.size + 1 ≤ w1.heap.size := by have := hc1.size; simpa using this
  have D1 : ClSt w (w1.alloc (.cells (x.cells a c) 53)) base b (m + 40) w1.heap.size x a c :=
    ⟨Bx.alloc _ _ _ rfl, ownsRow_le (own_below ho1 (below_alloc1 _ _) (Nat.le_refl _)) (by simp), fun k hk => by have := (ho1.lt k hk).2; omega, (R0.chg hc1 (by simp) (by omega)).allocO (by omega) _ _, hs1.allocN _ _, (C0.trans hc1).allocN _ _, by omega, hbl, hB⟩
  have D1 := Lib.hid D1
  have HXL := Lib.hid hxl
  clear ho1 hs1 hc1 R0 C0 S0 hxl
  go_wp2_with fail
  refine (pick_c base b _ 24 _ D1.out.src (by omega) (by omega)).mono ?_
  rintro e w2 ⟨v, rfl, v0, v1, hs2, hc2⟩
  have D2 := Lib.hid (D1.out.step hc2 hs2)
  clear hs2 hc2 D1
  go_upto_block 0 with fail
  go_cut [] from 8 to 51 (fun wx => ∃ (x : Ck) (a : Option Addr) (c : Nat), Hid (BtSt w wx base b (m + 40 + 2 + 2) w1.heap.size x a c))
  case first =>
    have zB : w1.heap.size < w2.heap.size := D2.out.box.lt (by simp [Ck.cells])
    obtain ⟨p, q, hpq⟩ := list_two HXL.out
    obtain ⟨xl, xi, xd, xp, xs, xr, xf⟩ := x
    dsimp only at hpq
    subst hpq
    obtain ⟨g, rfl, hg1, hg2⟩ := own_lt_n D2.out.own (by simp)
    have hgB : ¬ g = w1.heap.size := D2.out.ap g rfl
    have hBg : ¬ w1.heap.size = g := fun e => hgB e.symm
    rcases (show v = 0 ∨ v = 1 ∨ v = 2 ∨ v = 3 ∨ v = 4 ∨ v = 5 ∨ v = 6 ∨ 7 ≤ v by omega) with rfl | rfl | rfl | rfl | rfl | rfl | rfl | hv
    · have DD := Lib.hid (D2.out.below (Below.refl _ _).drew)
      have k0 := D2.out.box.box 0 _ rfl
      clear D2
      go_upto_region 4 with fail
      refine heldH (S := fun W => W.cell? ⟨w1.heap.size, 0, none⟩ = some (.slice (some ⟨g, 0, none⟩) 2 c)) (n := 7) (listed := #[false, false, false, false, false, false, false]) (by kernel_rfl) (by rfl) (by rfl) ?_ (fun hHeld => ?_)
      (focus ((try dsimp only); (first | done | ((first | exact k3 | exact k2 | exact k0 | (rw [cell_other hBg]; exact k3)); done))))
      (refine takeH (i := 0) (v := ?_) (by decide +kernel) (by decide +kernel) (by kernel_rfl) (by rfl) (by exact fun _ _ _ h => h) (by rfl) ?_ (by assumption) ?_); rotate_left; (focus (intro w hSw; (try dsimp only at hSw); go_simp; (try with_reducible rfl); done)); (try simp only [Act.put, List.setIfInBounds_toArray, List.set_cons_zero, List.set_cons_succ])
      (refine takeH (i := 1) (v := ?_) (by decide +kernel) (by decide +kernel) (by kernel_rfl) (by rfl) (by exact fun _ _ _ h => h) (by rfl) ?_ (by assumption) ?_); rotate_left; (focus (intro w hSw; (try dsimp only at hSw); go_simp; (try with_reducible rfl); done)); (try simp only [Act.put, List.setIfInBounds_toArray, List.set_cons_zero, List.set_cons_succ])
      (refine takeH (i := 2) (v := ?_) (by decide +kernel) (by decide +kernel) (by kernel_rfl) (by rfl) (by exact fun _ _ _ h => h) (by rfl) ?_ (by assumption) ?_); rotate_left; (focus (intro w hSw; (try dsimp only at hSw); go_simp; (try with_reducible rfl); done)); (try simp only [Act.put, List.setIfInBounds_toArray, List.set_cons_zero, List.set_cons_succ])
      refine nextH (i := 3) (by decide +kernel) (by rfl) (by rfl) (fun K hK => ?_)
      (go_simp; (have D3 := Lib.hid (DD.out.below (below_alloc1 w2.drew (.cells #[.int .i64 (-1), .int .i64 0, .int .i64 1, .int .i64 36000000, .int .i64 36000001] 2)))); (have G2 := Bx.alloc (n := w2.heap.size) w2.drew #[.int .i64 (-1), .int .i64 0, .int .i64 1, .int .i64 36000000, .int .i64 36000001] 2 rfl); (have k2 := D3.out.box.box 0 _ rfl); (dsimp only at k2))
      refine hK.out _ _ ?_ (fun hHeld' => ?_)
      (focus ((try dsimp only); (first | done | ((first | exact k3 | exact k2 | exact k0 | (rw [cell_other hBg]; exact k3)); done))))
      clear hK K hHeld
      have hHeld := hHeld'
      clear hHeld'
      (try simp only [Act.put, List.setIfInBounds_toArray, List.set_cons_zero, List.set_cons_succ])
      refine nextH (i := 4) (by decide +kernel) (by rfl) (by rfl) (fun K hK => ?_)
      (go_simp; go_at_call 131; (refine (among_c base b _ w2.heap.size [-1, 0, 1, 36000000, 36000001] _ D3.out.src (by omega) G2.box (by have := D3.out.hb; omega) (by simp) (by simp)).mono ?_); (rintro e w6 ⟨u, _, rfl, hs6, hc6⟩); (have D4 := D3.out.step hc6 hs6); (have k3 := D4.box.box 0 _ rfl); (dsimp only at k3); (have cl3 := D4.own.cellAt 0 (by simp)); (have fz3 := D4.own.frozenAt 0); (have l3 := (D4.own.lt g rfl).2); (simp only [List.map_cons, List.getElem?_cons_zero] at cl3); (have E := Lib.hid (D4.first u)); clear hs6 hc6 D4)
      refine hK.out _ _ ?_ (fun hHeld' => ?_)
      (focus ((try dsimp only); (first | done | ((first | exact k3 | exact k2 | exact k0 | (rw [cell_other hBg]; exact k3)); done))))
      clear hK K hHeld
      have hHeld := hHeld'
      clear hHeld'
      (try simp only [Act.put, List.setIfInBounds_toArray, List.set_cons_zero, List.set_cons_succ])
      refine nextH (i := 5) (by decide +kernel) (by rfl) (by rfl) (fun K hK => ?_)
      go_simp
      (skip)
      refine hK.out _ _ ?_ (fun hHeld' => ?_)
      (focus ((try dsimp only); (first | done | ((first | exact k3 | exact k2 | exact k0 | (rw [cell_other hBg]; exact k3)); done))))
      clear hK K hHeld
      have hHeld := hHeld'
      clear hHeld'
      (try simp only [Act.put, List.setIfInBounds_toArray, List.set_cons_zero, List.set_cons_succ])
      refine nextH (i := 6) (by decide +kernel) (by rfl) (by rfl) (fun K hK => ?_)
      go_simp
      (skip)
      refine hK.out _ _ ?_ (fun hHeld' => ?_)
      (focus ((try dsimp only); (first | done | ((first | exact k3 | exact k2 | exact k0 | (rw [cell_other hBg]; exact k3)); done))))
      clear hK K hHeld
      have hHeld := hHeld'
      clear hHeld'
      (try simp only [Act.put, List.setIfInBounds_toArray, List.set_cons_zero, List.set_cons_succ])
      refine wpAnyH_done (by decide +kernel) ?_ _
      clear hHeld k3 k2 k0 DD D3 G2 fz3 cl3
      go_wp2_with fail
      go_meet
      exact ⟨_, _, _, E⟩
    · have G := Bx.alloc (n := w2.heap.size) w2 #[.int .i64 (-1), .int .i64 0, .int .i64 1, .int .i64 2] 2 rfl
      have D3 := Lib.hid (D2.out.below (below_alloc1 w2 (.cells #[.int .i64 (-1), .int .i64 0, .int .i64 1, .int .i64 2] 2)))
      clear D2
      go_wp2_with fail
      refine (among_c base b _ w2.heap.size [-1, 0, 1, 2] _ D3.out.src (by omega) G.box (by have := D3.out.hb; omega) (by simp) (by simp)).mono ?_
      rintro e w4 ⟨u, _, rfl, hs4, hc4⟩
      have D4 := D3.out.step hc4 hs4
      have z4 : w2.heap.size + 1 ≤ w4.heap.size := by have := hc4.size; simpa using this
      obtain ⟨c0, c1, c2, c3, c4, c5, c6⟩ := Ck.boxc D4.box.box
      have cf := D4.box.free
      have E := Lib.hid (D4.field (o := 3) (y := ⟨[p, q], xi, xd, u, xs, xr, xf⟩) (v := .int .i64 u) rfl (by omega) rfl rfl)
      clear D4 D3 hs4 hc4 G
      go_wp2_with fail
      go_meet
      exact ⟨_, _, _, E⟩
    · have G := Bx.alloc (n := w2.heap.size) w2 #[.int .i64 (-1), .int .i64 0, .int .i64 36000000, .int .i64 36000001] 2 rfl
      have D3 := Lib.hid (D2.out.below (below_alloc1 w2 (.cells #[.int .i64 (-1), .int .i64 0, .int .i64 36000000, .int .i64 36000001] 2)))
      clear D2
      go_wp2_with fail
      refine (among_c base b _ w2.heap.size [-1, 0, 36000000, 36000001] _ D3.out.src (by omega) G.box (by have := D3.out.hb; omega) (by simp) (by simp)).mono ?_
      rintro e w4 ⟨u, _, rfl, hs4, hc4⟩
      have D4 := D3.out.step hc4 hs4
      have z4 : w2.heap.size + 1 ≤ w4.heap.size := by have := hc4.size; simpa using this
      obtain ⟨c0, c1, c2, c3, c4, c5, c6⟩ := Ck.boxc D4.box.box
      have cf := D4.box.free
      have E := Lib.hid (D4.field (o := 4) (y := ⟨[p, q], xi, xd, xp, u, xr, xf⟩) (v := .int .i64 u) rfl (by omega) rfl rfl)
      clear D4 D3 hs4 hc4 G
      go_wp2_with fail
      go_meet
      exact ⟨_, _, _, E⟩
    · obtain ⟨c0, c1, c2, c3, c4, c5, c6⟩ := Ck.boxc D2.out.box.box
      have cf := D2.out.box.free
      have E := Lib.hid ((D2.out.field (o := 6) (y := ⟨[p, q], xi, xd, xp, xs, xr, !xf⟩) (v := .bool (!xf)) rfl (by omega) rfl rfl).mono (show _ ≤ m + 40 + 2 + 2 by omega))
      clear D2
      go_wp2_with fail
      go_meet
      exact ⟨_, _, _, E⟩
    · have G := Bx.alloc (n := w2.heap.size) w2 #[.int .i64 (-1), .int .i64 36000000, .int .i64 36000001] 2 rfl
      have D3 := Lib.hid (D2.out.below (below_alloc1 w2 (.cells #[.int .i64 (-1), .int .i64 36000000, .int .i64 36000001] 2)))
      clear D2
      go_wp2_with fail
      refine (among_c base b _ w2.heap.size [-1, 36000000, 36000001] _ D3.out.src (by omega) G.box (by have := D3.out.hb; omega) (by simp) (by simp)).mono ?_
      rintro e w4 ⟨u, _, rfl, hs4, hc4⟩
      have D4 := D3.out.step hc4 hs4
      have z4 : w2.heap.size + 1 ≤ w4.heap.size := by have := hc4.size; simpa using this
      obtain ⟨c0, c1, c2, c3, c4, c5, c6⟩ := Ck.boxc D4.box.box
      have cf := D4.box.free
      have E := Lib.hid (D4.field (o := 1) (y := ⟨[p, q], u, xd, xp, xs, xr, xf⟩) (v := .int .i64 u) rfl (by omega) rfl rfl)
      clear D4 D3 hs4 hc4 G
      go_wp2_with fail
      go_meet
      exact ⟨_, _, _, E⟩
    · obtain ⟨c0, c1, c2, c3, c4, c5, c6⟩ := Ck.boxc D2.out.box.box
      have cf := D2.out.box.free
      have hcap := own_capC D2.out.own
      have hc0 : ¬ c = 0 := by simp at hcap; omega
      have hc1 : 1 ≤ c := by omega
      have E := Lib.hid (D2.out.cut.mono (show _ ≤ m + 40 + 2 + 2 by omega))
      clear D2 hcap
      go_wp2_with fail
      go_meet
      exact ⟨_, _, _, E⟩
    · have G := Bx.alloc (n := w2.heap.size) w2 #[.int .i64 (-1), .int .i64 36000000, .int .i64 36000001] 2 rfl
      have D3 := Lib.hid (D2.out.below (below_alloc1 w2 (.cells #[.int .i64 (-1), .int .i64 36000000, .int .i64 36000001] 2)))
      clear D2
      go_wp2_with fail
      refine (among_c base b _ w2.heap.size [-1, 36000000, 36000001] _ D3.out.src (by omega) G.box (by have := D3.out.hb; omega) (by simp) (by simp)).mono ?_
      rintro e w4 ⟨u, _, rfl, hs4, hc4⟩
      have D4 := D3.out.step hc4 hs4
      have z4 : w2.heap.size + 1 ≤ w4.heap.size := by have := hc4.size; simpa using this
      obtain ⟨c0, c1, c2, c3, c4, c5, c6⟩ := Ck.boxc D4.box.box
      have cf := D4.box.free
      have E := Lib.hid (D4.field (o := 2) (y := ⟨[p, q], xi, u, xp, xs, xr, xf⟩) (v := .int .i64 u) rfl (by omega) rfl rfl)
      clear D4 D3 hs4 hc4 G
      go_wp2_with fail
      go_meet
      exact ⟨_, _, _, E⟩
    · have E := Lib.hid ((D2.out.bt rfl).mono (show _ ≤ m + 40 + 2 + 2 by omega))
      clear D2
      go_wp2_with fail
      go_meet
      exact ⟨_, _, _, E⟩
  case rest =>
  obtain ⟨y, ay, cy, HY⟩ := hcut
  obtain ⟨c0, c1, c2, c3, c4, c5, c6⟩ := Ck.boxc HY.out.box.box
  obtain ⟨r0, r1, r2, r3, r4, r5, r6⟩ := (⟨HY.out.res.box 0 _ rfl, HY.out.res.box 1 _ rfl, HY.out.res.box 2 _ rfl, HY.out.res.box 3 _ rfl, HY.out.res.box 4 _ rfl, HY.out.res.box 5 _ rfl, HY.out.res.box 6 _ rfl⟩ : _ ∧ _ ∧ _ ∧ _ ∧ _ ∧ _ ∧ _)
  have rf := HY.out.res.free
  have lR := HY.out.res.lt (by simp [ckZero])
  have hRB : ¬ w.heap.size = w1.heap.size := by omega
  go_wp2_with fail
  refine bodyPost_ret (v := y.val ay cy) (by simp [results, Try.results122, go_sem, c0, c1, c2, c3, c4, c5, c6, r0, r1, r2, r3, r4, r5, r6, rf, lR, Ck.val, Ck.cells]) rfl ⟨y, ay, cy, rfl, HY.out.len, ?_, ?_, ?_⟩
  · have k9 := HY.out.row
    refine CkRow.le (lo := w.heap.size + 1) ?_ (by omega)
    repeat (first | (with_reducible exact k9) | ((with_reducible refine CkRow.setD ?_ ?_ _); rotate_left; (simp <;> omega)))
  · have k9 := HY.out.src.mono (show _ ≤ m + 50 by omega)
    repeat (first | (with_reducible exact k9) | ((with_reducible refine SrcP.set ?_ _ ?_ ?_ rfl _); rotate_left; (simp; omega); (simp; omega)))
  · have k9 := HY.out.chg
    repeat (first | (with_reducible exact k9) | ((with_reducible refine Chg.setNew ?_ _ ?_ _); rotate_left; (simp <;> omega)))

set_option maxRecDepth 100000 in
set_option maxHeartbeats 8000000 in
theorem l23Now_c (base b m cb co : Nat) (n : Int) (w : World) (h : SrcP base b m w) (hm : m ≤ 1000000) (hc : w.cell? ⟨cb, co + 4, none⟩ = some (.int .i64 n)) (hne : cb ≠ b) (hbl : b < w.heap.size) :
    Calls Try.prog 123 #[.pointer (some ⟨b, 0, none⟩), .pointer (some ⟨cb, co, none⟩)] w fun e w' => ∃ v : Int, e = .returned (.int .i64 v) ∧ SrcP base b (m + 6) w' ∧ Chg b (b + 1) w w' := by
  have hcl : cb < w.heap.size := World.block_lt_of_cell? w _ hc
  have H := Lib.hid h
  have HC := Lib.hid hc
  clear h hc
  go_enter Try.func123, Try.ntmps123
  go_wp2_with fail
  refine (one_c base b m 10 _ H.out (by omega) (by omega)).mono ?_
  rintro e w1 ⟨f, rfl, hs1, hc1⟩
  have z1 : w.heap.size ≤ w1.heap.size := hc1.size
  have S1 := Lib.hid hs1
  have C1 := Lib.hid hc1
  have K1 : Hid (w1.cell? ⟨cb, co + 4, none⟩ = some (.int .i64 n)) := ((cell_chg hc1 hcl (by omega)).1 _).trans HC.out
  clear hs1 hc1
  cases f
  · have S1d := Lib.hid (S1.out.below (Below.refl _ _).drew)
    have C1d := Lib.hid (C1.out.step (Below.refl _ _).drew)
    have k0 := K1.out
    go_upto_region 3 with fail
    refine heldH (S := fun W => W.cell? ⟨cb, co + 4, none⟩ = some (.int .i64 n)) (n := 11) (listed := #[false, false, false, false, false, false, false, false, false, false, false]) (by kernel_rfl) (by rfl) (by rfl) ?_ (fun hHeld => ?_)
    (focus ((try dsimp only); (first | done | ((first | exact k3 | exact k2 | exact k0); done))))
    (refine takeH (i := 0) (v := ?_) (by decide +kernel) (by decide +kernel) (by kernel_rfl) (by rfl) (by exact fun _ _ _ h => h) (by rfl) ?_ (by assumption) ?_); rotate_left; (focus (intro w hSw; (try dsimp only at hSw); go_simp; (try with_reducible rfl); done)); (try simp only [Act.put, List.setIfInBounds_toArray, List.set_cons_zero, List.set_cons_succ])
    (refine takeH (i := 1) (v := ?_) (by decide +kernel) (by decide +kernel) (by kernel_rfl) (by rfl) (by exact fun _ _ _ h => h) (by rfl) ?_ (by assumption) ?_); rotate_left; (focus (intro w hSw; (try dsimp only at hSw); go_simp; (try with_reducible rfl); done)); (try simp only [Act.put, List.setIfInBounds_toArray, List.set_cons_zero, List.set_cons_succ])
    (refine takeH (i := 2) (v := ?_) (by decide +kernel) (by decide +kernel) (by kernel_rfl) (by rfl) (by exact fun _ _ _ h => h) (by rfl) ?_ (by assumption) ?_); rotate_left; (focus (intro w hSw; (try dsimp only at hSw); go_simp; (try with_reducible rfl); done)); (try simp only [Act.put, List.setIfInBounds_toArray, List.set_cons_zero, List.set_cons_succ])
    (refine takeH (i := 3) (v := ?_) (by decide +kernel) (by decide +kernel) (by kernel_rfl) (by rfl) (by exact fun _ _ _ h => h) (by rfl) ?_ (by assumption) ?_); rotate_left; (focus (intro w hSw; (try dsimp only at hSw); go_simp; (try with_reducible rfl); done)); (try simp only [Act.put, List.setIfInBounds_toArray, List.set_cons_zero, List.set_cons_succ])
    (refine takeH (i := 4) (v := ?_) (by decide +kernel) (by decide +kernel) (by kernel_rfl) (by rfl) (by exact fun _ _ _ h => h) (by rfl) ?_ (by assumption) ?_); rotate_left; (focus (intro w hSw; (try dsimp only at hSw); go_simp; (try with_reducible rfl); done)); (try simp only [Act.put, List.setIfInBounds_toArray, List.set_cons_zero, List.set_cons_succ])
    (refine takeH (i := 6) (v := ?_) (by decide +kernel) (by decide +kernel) (by kernel_rfl) (by rfl) (by exact fun _ _ _ h => h) (by rfl) ?_ (by assumption) ?_); rotate_left; (focus (intro w hSw; (try dsimp only at hSw); go_simp; (try with_reducible rfl); done)); (try simp only [Act.put, List.setIfInBounds_toArray, List.set_cons_zero, List.set_cons_succ])
    refine nextH (i := 5) (by decide +kernel) (by rfl) (by rfl) (fun K hK => ?_)
    (go_simp; go_at_call 94; (refine (pick_c base b _ 20000 _ S1d.out (by omega) (by omega)).mono ?_); (rintro e w2 ⟨v, rfl, v0, v1, hs2, hc2⟩); (have z2 : w1.heap.size ≤ w2.heap.size := hc2.size); (have S2 := Lib.hid hs2); (have C2 := Lib.hid (C1d.out.trans hc2)); (have k2 : w2.cell? ⟨cb, co + 4, none⟩ = some (.int .i64 n) := ((cell_chg hc2 (by simp; omega) (by omega)).1 _).trans k0); clear hs2 hc2)
    refine hK.out _ _ ?_ (fun hHeld' => ?_)
    (focus ((try dsimp only); (first | done | ((first | exact k3 | exact k2 | exact k0); done))))
    clear hK K hHeld
    have hHeld := hHeld'
    clear hHeld'
    (try simp only [Act.put, List.setIfInBounds_toArray, List.set_cons_zero, List.set_cons_succ])
    refine nextH (i := 7) (by decide +kernel) (by rfl) (by rfl) (fun K hK => ?_)
    (go_simp; go_at_call 94; (refine (pick_c base b _ 3 _ S2.out (by omega) (by omega)).mono ?_); (rintro e w3 ⟨u, rfl, u0, u1, hs3, hc3⟩); (have S3 := Lib.hid hs3); (have C3 := Lib.hid (C2.out.trans hc3)); (have k3 : w3.cell? ⟨cb, co + 4, none⟩ = some (.int .i64 n) := ((cell_chg hc3 (by omega) (by omega)).1 _).trans k2); clear hs3 hc3)
    refine hK.out _ _ ?_ (fun hHeld' => ?_)
    (focus ((try dsimp only); (first | done | ((first | exact k3 | exact k2 | exact k0); done))))
    clear hK K hHeld
    have hHeld := hHeld'
    clear hHeld'
    (try simp only [Act.put, List.setIfInBounds_toArray, List.set_cons_zero, List.set_cons_succ])
    (refine takeH (i := 8) (v := ?_) (by decide +kernel) (by decide +kernel) (by kernel_rfl) (by rfl) (by exact fun _ _ _ h => h) (by rfl) ?_ (by assumption) ?_); rotate_left; (focus (intro w hSw; (try dsimp only at hSw); go_simp; (try with_reducible rfl); done)); (try simp only [Act.put, List.setIfInBounds_toArray, List.set_cons_zero, List.set_cons_succ])
    (refine takeH (i := 9) (v := ?_) (by decide +kernel) (by decide +kernel) (by kernel_rfl) (by rfl) (by exact fun _ _ _ h => h) (by rfl) ?_ (by assumption) ?_); rotate_left; (focus (intro w hSw; (try dsimp only at hSw); go_simp; (try with_reducible rfl); done)); (try simp only [Act.put, List.setIfInBounds_toArray, List.set_cons_zero, List.set_cons_succ])
    (refine takeH (i := 10) (v := ?_) (by decide +kernel) (by decide +kernel) (by kernel_rfl) (by rfl) (by exact fun _ _ _ h => h) (by rfl) ?_ (by assumption) ?_); rotate_left; (focus (intro w hSw; (try dsimp only at hSw); go_simp; (try with_reducible rfl); done)); (try simp only [Act.put, List.setIfInBounds_toArray, List.set_cons_zero, List.set_cons_succ])
    refine wpAnyH_done (by decide +kernel) ?_ _
    clear hHeld k0 k2 k3
    go_wp2
    go_ret
    exact ⟨_, rfl, S3.out.mono (by omega), C3.out⟩
  · have G := Bx.alloc (n := w1.heap.size) w1 #[.int .i64 (-1), .int .i64 0, .int .i64 36000000, .int .i64 36000001] 2 rfl
    have S2 := Lib.hid (S1.out.allocN #[.int .i64 (-1), .int .i64 0, .int .i64 36000000, .int .i64 36000001] 2)
    have C2 := Lib.hid (C1.out.allocN #[.int .i64 (-1), .int .i64 0, .int .i64 36000000, .int .i64 36000001] 2)
    go_wp2_with fail
    refine (among_c base b _ w1.heap.size [-1, 0, 36000000, 36000001] _ S2.out (by omega) G.box (by omega) (by simp) (by simp)).mono ?_
    rintro e w3 ⟨u, _, rfl, hs3, hc3⟩
    have S3 := Lib.hid hs3
    have C3 := Lib.hid (C2.out.trans hc3)
    clear hs3 hc3
    go_wp2
    go_ret
    exact ⟨_, rfl, S3.out.mono (by omega), C3.out⟩

/-- a clock that is drawn -/
structure CkOut (w w' : World) (x : Ck) (a : Option Addr) : Prop where
  row : CkRow w' w.heap.size a x
  len : x.left.length ≤ 2
  below : Below w.heap.size w w'
set_option maxRecDepth 100000 in
set_option maxHeartbeats 8000000 in
theorem l23Ask_c (ca : Option Addr) (cc : Nat) (bs : List Int) (w : World) (h : ByteP w.heap.size ca bs w) :
    Calls Try.prog 116 #[.slice ca bs.length cc] w fun e w' => ∃ (x : Ck) (a : Option Addr) (c : Nat) (n : Int), e = .returned (.tuple #[x.val a c, .int .i64 n]) ∧ CkOut w w' x a := by
  have B0 := below_alloc1 w (.cells ckZero 53)
  have h1 := h.keep (fun k hk => B0.block k hk)
  have R0 := Bx.alloc w ckZero 53 rfl
  go_enter Try.func116, Try.ntmps116
  go_wp2_with fail
  refine (l00From_c w.heap.size ca cc bs _ h1 (by simp)).mono ?_
  rintro e w1 ⟨rfl, hs1, hb1⟩
  simp only [World.size_alloc] at hs1 hb1 ⊢
  have z1 := hs1.lt
  have B1 := B0.trans (hb1.mono (by omega))
  have R1 := R0.below hb1 (by omega)
  have S1 := Lib.hid hs1
  clear hs1 hb1 R0 B0 h h1
  go_wp2_with fail
  refine (l23Bent_c w.heap.size (w.heap.size + 1) 0 _ S1.out (by omega) (by omega) z1.1).mono ?_
  rintro e w2 ⟨x, a, c, rfl, hxl, hr2, hs2, hc2⟩
  have z2 : w1.heap.size ≤ w2.heap.size := hc2.size
  have B2 := hc2.below B1 (by omega)
  have R2 := (R1.chg hc2 (by omega) (by omega)).allocO (by omega) (x.cells a c) 53
  have Q2 := Bx.alloc (n := w2.heap.size) w2 (x.cells a c) 53 rfl
  have S2 := Lib.hid ((hs2.allocN (x.cells a c) 53).below (Below.refl _ _).drew)
  have W2 : CkRow (w2.alloc (.cells (x.cells a c) 53)).drew w1.heap.size a x := (hr2.chg (Chg.ofBelow (lo := 0) (hi := 0) (below_alloc1 w2 _)) (by omega)).chg (Chg.ofBelow (lo := 0) (hi := 0) (Below.refl _ _).drew) (by omega)
  have HB2 := Lib.hid ((B2.alloc (by omega) (.cells (x.cells a c) 53)).drew)
  have HW2 := Lib.hid W2
  have HR2 := Lib.hid R2.drew
  have HQ2 := Lib.hid Q2.drew
  have HL := Lib.hid hxl
  obtain ⟨q0, q1, q2, q3, q4, q5, q6⟩ := Ck.boxc HQ2.out.box
  have HSK : Hid (∀ W, Bx w2.heap.size (x.cells a c).toList W → (W.cell? ⟨w2.heap.size, 0, none⟩ = some (.slice a x.left.length c) ∧ W.cell? ⟨w2.heap.size, 1, none⟩ = some (.int .i64 x.inc) ∧ W.cell? ⟨w2.heap.size, 2, none⟩ = some (.int .i64 x.delay) ∧ W.cell? ⟨w2.heap.size, 3, none⟩ = some (.int .i64 x.player) ∧ W.cell? ⟨w2.heap.size, 4, none⟩ = some (.int .i64 x.since) ∧ W.cell? ⟨w2.heap.size, 5, none⟩ = some (.bool x.running) ∧ W.cell? ⟨w2.heap.size, 6, none⟩ = some (.bool x.fallen))) := fun W h => Ck.boxc h.box
  have hz : w2.heap.size + 1 ≤ (w2.alloc (.cells (x.cells a c) 53)).drew.heap.size := by simp
  clear hr2 hs2 hc2 R1 B1 B2 R2 Q2 W2 S1 hxl
  go_upto_region 3 with fail
  clear q0 q1 q2 q3 q4 q5 q6
  have q0 := HSK.out _ HQ2.out
  dsimp only [Ck.cells] at q0
  refine heldH (S := fun W => W.cell? ⟨w2.heap.size, 0, none⟩ = some (.slice a x.left.length c) ∧ W.cell? ⟨w2.heap.size, 1, none⟩ = some (.int .i64 x.inc) ∧ W.cell? ⟨w2.heap.size, 2, none⟩ = some (.int .i64 x.delay) ∧ W.cell? ⟨w2.heap.size, 3, none⟩ = some (.int .i64 x.player) ∧ W.cell? ⟨w2.heap.size, 4, none⟩ = some (.int .i64 x.since) ∧ W.cell? ⟨w2.heap.size, 5, none⟩ = some (.bool x.running) ∧ W.cell? ⟨w2.heap.size, 6, none⟩ = some (.bool x.fallen)) (n := 5) (listed := #[false, false, false, false, false]) (by kernel_rfl) (by rfl) (by rfl) ?_ (fun hHeld => ?_)
  (focus ((try dsimp only); (first | done | ((first | (with_reducible exact q0) | (exact HSK.out _ (by ((try with_reducible refine Bx.drew ?_); repeat (first | (with_reducible exact Q3.out) | ((with_reducible refine Bx.other ?_ _ ?_ _); rotate_left; (simp; omega)))))) | exact q0); done))))
  (refine takeH (i := 0) (v := ?_) (by decide +kernel) (by decide +kernel) (by kernel_rfl) (by rfl) (by exact fun _ _ _ h => h) (by rfl) ?_ (by assumption) ?_); rotate_left; (focus (intro w hSw; (try dsimp only at hSw); go_simp; (try with_reducible rfl); done)); (try simp only [Act.put, List.setIfInBounds_toArray, List.set_cons_zero, List.set_cons_succ])
  (refine takeH (i := 1) (v := ?_) (by decide +kernel) (by decide +kernel) (by kernel_rfl) (by rfl) (by exact fun _ _ _ h => h) (by rfl) ?_ (by assumption) ?_); rotate_left; (focus (intro w hSw; (try dsimp only at hSw); go_simp; (try with_reducible rfl); done)); (try simp only [Act.put, List.setIfInBounds_toArray, List.set_cons_zero, List.set_cons_succ])
  refine nextH (i := 2) (by decide +kernel) (by rfl) (by rfl) (fun K hK => ?_)
  (go_simp; go_at_call 123; (refine (l23Now_c w.heap.size (w.heap.size + 1) _ w2.heap.size 0 x.since _ S2.out (by omega) (HQ2.out.box 4 _ rfl) (by omega) (by simp; omega)).mono ?_); (rintro e w3 ⟨n, rfl, hs3, hc3⟩); (have z3 : w2.heap.size + 1 ≤ w3.heap.size := by have := hc3.size; simpa using this); (have R3 := HR2.out.chg hc3 (by simp; omega) (by omega)); (have Q3 := Lib.hid (HQ2.out.chg hc3 (by simp) (by omega))); (obtain ⟨r0, r1, r2, r3, r4, r5, r6⟩ := (⟨R3.box 0 _ rfl, R3.box 1 _ rfl, R3.box 2 _ rfl, R3.box 3 _ rfl, R3.box 4 _ rfl, R3.box 5 _ rfl, R3.box 6 _ rfl⟩ : _ ∧ _ ∧ _ ∧ _ ∧ _ ∧ _ ∧ _)); (have rf := R3.free); (have lR := R3.lt (by simp)); (have HB3 := Lib.hid (hc3.below HB2.out (by omega))); (have HW3 := Lib.hid (HW2.out.chg hc3 (by omega))); clear hs3 hc3 R3)
  refine hK.out _ _ ?_ (fun hHeld' => ?_)
  (focus ((try dsimp only); (first | done | ((first | (with_reducible exact q0) | (exact HSK.out _ (by ((try with_reducible refine Bx.drew ?_); repeat (first | (with_reducible exact Q3.out) | ((with_reducible refine Bx.other ?_ _ ?_ _); rotate_left; (simp; omega)))))) | exact q0); done))))
  clear hK K hHeld
  have hHeld := hHeld'
  clear hHeld'
  (try simp only [Act.put, List.setIfInBounds_toArray, List.set_cons_zero, List.set_cons_succ])
  refine nextH (i := 3) (by decide +kernel) (by rfl) (by rfl) (fun K hK => ?_)
  go_simp
  (skip)
  refine hK.out _ _ ?_ (fun hHeld' => ?_)
  (focus ((try dsimp only); (first | done | ((first | (with_reducible exact q0) | (exact HSK.out _ (by ((try with_reducible refine Bx.drew ?_); repeat (first | (with_reducible exact Q3.out) | ((with_reducible refine Bx.other ?_ _ ?_ _); rotate_left; (simp; omega)))))) | exact q0); done))))
  clear hK K hHeld
  have hHeld := hHeld'
  clear hHeld'
  (try simp only [Act.put, List.setIfInBounds_toArray, List.set_cons_zero, List.set_cons_succ])
  (refine takeH (i := 4) (v := ?_) (by decide +kernel) (by decide +kernel) (by kernel_rfl) (by rfl) (by exact fun _ _ _ h => h) (by rfl) ?_ (by assumption) ?_); rotate_left; (focus (intro w hSw; (try dsimp only at hSw); go_simp; (try with_reducible rfl); done)); (try simp only [Act.put, List.setIfInBounds_toArray, List.set_cons_zero, List.set_cons_succ])
  refine wpAnyH_done (by decide +kernel) ?_ _
  clear hHeld q0
  go_wp2
  refine bodyPost_ret (v := .tuple #[x.val a c, .int .i64 n]) (by simp [results, Try.results116, go_sem, r0, r1, r2, r3, r4, r5, r6, rf, lR, Ck.val, Ck.cells]) rfl ⟨x, a, c, n, rfl, ?_, HL.out, ?_⟩
  · have k9 := HW3.out
    have k8 := z1
    refine CkRow.le (lo := w1.heap.size) ?_ (by omega)
    repeat (first | (with_reducible exact k9) | ((with_reducible refine CkRow.setD ?_ ?_ _); rotate_left; (simp <;> omega)))
  · have k9 := HB3.out
    repeat (first | (with_reducible exact k9) | ((with_reducible refine Below.setCell ?_ ?_ _); rotate_left; (simp <;> omega)))

set_option maxHeartbeats 2000000 in
theorem DrawStartClock_c (ca : Option Addr) (cc : Nat) (bs : List Int) (w : World) (h : ByteP w.heap.size ca bs w) :
    Calls Try.prog 43 #[.slice ca bs.length cc] w fun e w' => ∃ (x : Ck) (a : Option Addr) (c : Nat) (n : Int), e = .returned (.tuple #[x.val a c, .int .i64 n]) ∧ CkOut w w' x a := by
  have B0 := below_alloc1 w (.cells ckZero 53)
  have R0 := Bx.alloc w ckZero 53 rfl
  have h1 : ByteP (w.alloc (.cells ckZero 53)).heap.size ca bs (w.alloc (.cells ckZero 53)) := by
    have := h.keep (fun k hk => B0.block k hk)
    exact ⟨this.row, this.rng, this.len, fun cb co s e hp => by have := this.low cb co s e hp; simp; omega⟩
  go_enter Try.func43, Try.ntmps43
  go_wp2_with fail
  refine (l23Ask_c ca cc bs _ h1).mono ?_
  rintro e w1 ⟨x, a, c, n, rfl, hr, hl, hb⟩
  simp only [World.size_alloc] at hr hb
  have R1 := R0.below hb (by omega)
  obtain ⟨r0, r1, r2, r3, r4, r5, r6⟩ := (⟨R1.box 0 _ rfl, R1.box 1 _ rfl, R1.box 2 _ rfl, R1.box 3 _ rfl, R1.box 4 _ rfl, R1.box 5 _ rfl, R1.box 6 _ rfl⟩ : _ ∧ _ ∧ _ ∧ _ ∧ _ ∧ _ ∧ _)
  have rf := R1.free
  have lR := R1.lt (by simp)
  have HR := Lib.hid hr
  have HL := Lib.hid hl
  have HB := Lib.hid (B0.trans (hb.mono (by omega)))
  clear hr hl hb R0 R1 B0 h h1
  go_wp2_with fail
  refine bodyPost_ret (v := .tuple #[x.val a c, .int .i64 n]) (by simp [results, Try.results43, go_sem, r0, r1, r2, r3, r4, r5, r6, rf, lR, Ck.val, Ck.cells]) rfl ⟨x, a, c, n, rfl, ?_, HL.out, ?_⟩
  · have k9 := HR.out
    refine CkRow.le (lo := w.heap.size + 1) ?_ (by omega)
    repeat (first | (with_reducible exact k9) | ((with_reducible refine CkRow.setD ?_ ?_ _); rotate_left; (simp <;> omega)))
  · have k9 := HB.out
    repeat (first | (with_reducible exact k9) | ((with_reducible refine Below.setCell ?_ ?_ _); rotate_left; (simp <;> omega)))
set_option maxHeartbeats 2000000 in
theorem DrawPressClock_c (ca : Option Addr) (cc : Nat) (bs : List Int) (w : World) (h : ByteP w.heap.size ca bs w) :
    Calls Try.prog 29 #[.slice ca bs.length cc] w fun e w' => ∃ (x : Ck) (a : Option Addr) (c : Nat) (n : Int), e = .returned (.tuple #[x.val a c, .int .i64 n]) ∧ CkOut w w' x a := by
  have B0 := below_alloc1 w (.cells ckZero 53)
  have R0 := Bx.alloc w ckZero 53 rfl
  have h1 : ByteP (w.alloc (.cells ckZero 53)).heap.size ca bs (w.alloc (.cells ckZero 53)) := by
    have := h.keep (fun k hk => B0.block k hk)
    exact ⟨this.row, this.rng, this.len, fun cb co s e hp => by have := this.low cb co s e hp; simp; omega⟩
  go_enter Try.func29, Try.ntmps29
  go_wp2_with fail
  refine (l23Ask_c ca cc bs _ h1).mono ?_
  rintro e w1 ⟨x, a, c, n, rfl, hr, hl, hb⟩
  simp only [World.size_alloc] at hr hb
  have R1 := R0.below hb (by omega)
  obtain ⟨r0, r1, r2, r3, r4, r5, r6⟩ := (⟨R1.box 0 _ rfl, R1.box 1 _ rfl, R1.box 2 _ rfl, R1.box 3 _ rfl, R1.box 4 _ rfl, R1.box 5 _ rfl, R1.box 6 _ rfl⟩ : _ ∧ _ ∧ _ ∧ _ ∧ _ ∧ _ ∧ _)
  have rf := R1.free
  have lR := R1.lt (by simp)
  have HR := Lib.hid hr
  have HL := Lib.hid hl
  have HB := Lib.hid (B0.trans (hb.mono (by omega)))
  clear hr hl hb R0 R1 B0 h h1
  go_wp2_with fail
  refine bodyPost_ret (v := .tuple #[x.val a c, .int .i64 n]) (by simp [results, Try.results29, go_sem, r0, r1, r2, r3, r4, r5, r6, rf, lR, Ck.val, Ck.cells]) rfl ⟨x, a, c, n, rfl, ?_, HL.out, ?_⟩
  · have k9 := HR.out
    refine CkRow.le (lo := w.heap.size + 1) ?_ (by omega)
    repeat (first | (with_reducible exact k9) | ((with_reducible refine CkRow.setD ?_ ?_ _); rotate_left; (simp <;> omega)))
  · have k9 := HB.out
    repeat (first | (with_reducible exact k9) | ((with_reducible refine Below.setCell ?_ ?_ _); rotate_left; (simp <;> omega)))
set_option maxHeartbeats 2000000 in
theorem DrawStopClock_c (ca : Option Addr) (cc : Nat) (bs : List Int) (w : World) (h : ByteP w.heap.size ca bs w) :
    Calls Try.prog 40 #[.slice ca bs.length cc] w fun e w' => ∃ (x : Ck) (a : Option Addr) (c : Nat) (n : Int), e = .returned (.tuple #[x.val a c, .int .i64 n]) ∧ CkOut w w' x a := by
  have B0 := below_alloc1 w (.cells ckZero 53)
  have R0 := Bx.alloc w ckZero 53 rfl
  have h1 : ByteP (w.alloc (.cells ckZero 53)).heap.size ca bs (w.alloc (.cells ckZero 53)) := by
    have := h.keep (fun k hk => B0.block k hk)
    exact ⟨this.row, this.rng, this.len, fun cb co s e hp => by have := this.low cb co s e hp; simp; omega⟩
  go_enter Try.func40, Try.ntmps40
  go_wp2_with fail
  refine (l23Ask_c ca cc bs _ h1).mono ?_
  rintro e w1 ⟨x, a, c, n, rfl, hr, hl, hb⟩
  simp only [World.size_alloc] at hr hb
  have R1 := R0.below hb (by omega)
  obtain ⟨r0, r1, r2, r3, r4, r5, r6⟩ := (⟨R1.box 0 _ rfl, R1.box 1 _ rfl, R1.box 2 _ rfl, R1.box 3 _ rfl, R1.box 4 _ rfl, R1.box 5 _ rfl, R1.box 6 _ rfl⟩ : _ ∧ _ ∧ _ ∧ _ ∧ _ ∧ _ ∧ _)
  have rf := R1.free
  have lR := R1.lt (by simp)
  have HR := Lib.hid hr
  have HL := Lib.hid hl
  have HB := Lib.hid (B0.trans (hb.mono (by omega)))
  clear hr hl hb R0 R1 B0 h h1
  go_wp2_with fail
  refine bodyPost_ret (v := .tuple #[x.val a c, .int .i64 n]) (by simp [results, Try.results40, go_sem, r0, r1, r2, r3, r4, r5, r6, rf, lR, Ck.val, Ck.cells]) rfl ⟨x, a, c, n, rfl, ?_, HL.out, ?_⟩
  · have k9 := HR.out
    refine CkRow.le (lo := w.heap.size + 1) ?_ (by omega)
    repeat (first | (with_reducible exact k9) | ((with_reducible refine CkRow.setD ?_ ?_ _); rotate_left; (simp <;> omega)))
  · have k9 := HB.out
    repeat (first | (with_reducible exact k9) | ((with_reducible refine Below.setCell ?_ ?_ _); rotate_left; (simp <;> omega)))

set_option maxRecDepth 100000 in
set_option maxHeartbeats 8000000 in
theorem DrawLeftAt_c (ca : Option Addr) (cc : Nat) (bs : List Int) (w : World) (h : ByteP w.heap.size ca bs w) :
    Calls Try.prog 34 #[.slice ca bs.length cc] w fun e w' => ∃ (x : Ck) (a : Option Addr) (c : Nat) (pl n : Int), e = .returned (.tuple #[x.val a c, .int .i64 pl, .int .i64 n]) ∧ CkOut w w' x a := by
  have B0 := below_alloc1 w (.cells ckZero 53)
  have h1 := h.keep (fun k hk => B0.block k hk)
  have R0 := Bx.alloc w ckZero 53 rfl
  go_enter Try.func34, Try.ntmps34
  go_wp2_with fail
  refine (l00From_c w.heap.size ca cc bs _ h1 (by simp)).mono ?_
  rintro e w1 ⟨rfl, hs1, hb1⟩
  simp only [World.size_alloc] at hs1 hb1 ⊢
  have z1 := hs1.lt
  have B1 := B0.trans (hb1.mono (by omega))
  have R1 := R0.below hb1 (by omega)
  have S1 := Lib.hid hs1
  clear hs1 hb1 R0 B0 h h1
  go_wp2_with fail
  refine (l23Bent_c w.heap.size (w.heap.size + 1) 0 _ S1.out (by omega) (by omega) z1.1).mono ?_
  rintro e w2 ⟨x, a, c, rfl, hxl, hr2, hs2, hc2⟩
  have z2 : w1.heap.size ≤ w2.heap.size := hc2.size
  have B2 := (hc2.below B1 (by omega)).alloc (by omega) (.cells (x.cells a c) 53)
  have R2 := (R1.chg hc2 (by omega) (by omega)).allocO (by omega) (x.cells a c) 53
  have Q2 := Bx.alloc (n := w2.heap.size) w2 (x.cells a c) 53 rfl
  have S2 := Lib.hid (hs2.allocN (x.cells a c) 53)
  have W2 : CkRow (w2.alloc (.cells (x.cells a c) 53)) w1.heap.size a x := hr2.chg (Chg.ofBelow (lo := 0) (hi := 0) (below_alloc1 w2 _)) (by omega)
  have HL := Lib.hid hxl
  clear hr2 hs2 hc2 R1 B1 S1 hxl
  go_wp2_with fail
  refine (pick_c w.heap.size (w.heap.size + 1) _ 20 _ S2.out (by omega) (by omega)).mono ?_
  rintro e w3 ⟨p1, rfl, p10, p11, hs3, hc3⟩
  have z3 : w2.heap.size + 1 ≤ w3.heap.size := by have := hc3.size; simpa using this
  have B3 := hc3.below B2 (by omega)
  have R3 := R2.chg hc3 (by simp; omega) (by omega)
  have Q3 := Q2.chg hc3 (by simp) (by omega)
  have W3 := W2.chg hc3 (by omega)
  have S3 := Lib.hid hs3
  clear hs3 hc3 R2 B2 S2 Q2 W2
  go_wp2_with fail
  refine (pick_c w.heap.size (w.heap.size + 1) _ 20 _ S3.out (by omega) (by omega)).mono ?_
  rintro e w4 ⟨p2, rfl, p20, p21, hs4, hc4⟩
  have z4 : w3.heap.size ≤ w4.heap.size := hc4.size
  have B4 := hc4.below B3 (by omega)
  have R4 := R3.chg hc4 (by omega) (by omega)
  have Q4 := Q3.chg hc4 (by omega) (by omega)
  have W4 := W3.chg hc4 (by omega)
  have S4 := Lib.hid hs4
  clear hs4 hc4 R3 B3 S3 Q3 W3
  have HS4 := Lib.hid (S4.out.below (Below.refl _ _).drew)
  have HB4 := Lib.hid B4.drew
  have HW4 : Hid (CkRow w4.drew w1.heap.size a x) := W4.chg (Chg.ofBelow (lo := 0) (hi := 0) (Below.refl _ _).drew) (by omega)
  have HR4 := Lib.hid R4.drew
  have HQ4 := Lib.hid Q4.drew
  obtain ⟨q0, q1, q2, q3, q4, q5, q6⟩ := Ck.boxc Q4.box
  have HSK : Hid (∀ W, Bx w2.heap.size (x.cells a c).toList W → (W.cell? ⟨w2.heap.size, 0, none⟩ = some (.slice a x.left.length c) ∧ W.cell? ⟨w2.heap.size, 1, none⟩ = some (.int .i64 x.inc) ∧ W.cell? ⟨w2.heap.size, 2, none⟩ = some (.int .i64 x.delay) ∧ W.cell? ⟨w2.heap.size, 3, none⟩ = some (.int .i64 x.player) ∧ W.cell? ⟨w2.heap.size, 4, none⟩ = some (.int .i64 x.since) ∧ W.cell? ⟨w2.heap.size, 5, none⟩ = some (.bool x.running) ∧ W.cell? ⟨w2.heap.size, 6, none⟩ = some (.bool x.fallen))) := fun W h => Ck.boxc h.box
  clear R4 B4 Q4 W4 S4
  go_upto_region 4 with fail
  have qq := HSK.out _ HQ4.out
  refine heldH (S := fun W => W.cell? ⟨w2.heap.size, 0, none⟩ = some (.slice a x.left.length c) ∧ W.cell? ⟨w2.heap.size, 1, none⟩ = some (.int .i64 x.inc) ∧ W.cell? ⟨w2.heap.size, 2, none⟩ = some (.int .i64 x.delay) ∧ W.cell? ⟨w2.heap.size, 3, none⟩ = some (.int .i64 x.player) ∧ W.cell? ⟨w2.heap.size, 4, none⟩ = some (.int .i64 x.since) ∧ W.cell? ⟨w2.heap.size, 5, none⟩ = some (.bool x.running) ∧ W.cell? ⟨w2.heap.size, 6, none⟩ = some (.bool x.fallen)) (n := 7) (listed := #[false, false, false, false, false, false, false]) (by kernel_rfl) (by rfl) (by rfl) ?_ (fun hHeld => ?_)
  (focus ((try dsimp only); (first | done | ((first | (with_reducible exact qq) | (exact HSK.out _ (by ((try with_reducible refine Bx.drew ?_); repeat (first | (with_reducible exact Q5.out) | ((with_reducible refine Bx.other ?_ _ ?_ _); rotate_left; (simp; omega)))))) | exact qq); done))))
  (refine takeH (i := 0) (v := ?_) (by decide +kernel) (by decide +kernel) (by kernel_rfl) (by rfl) (by exact fun _ _ _ h => h) (by rfl) ?_ (by assumption) ?_); rotate_left; (focus (intro w hSw; (try dsimp only at hSw); go_simp; (try with_reducible rfl); done)); (try simp only [Act.put, List.setIfInBounds_toArray, List.set_cons_zero, List.set_cons_succ])
  (refine takeH (i := 1) (v := ?_) (by decide +kernel) (by decide +kernel) (by kernel_rfl) (by rfl) (by exact fun _ _ _ h => h) (by rfl) ?_ (by assumption) ?_); rotate_left; (focus (intro w hSw; (try dsimp only at hSw); go_simp; (try with_reducible rfl); done)); (try simp only [Act.put, List.setIfInBounds_toArray, List.set_cons_zero, List.set_cons_succ])
  (refine takeH (i := 2) (v := ?_) (by decide +kernel) (by decide +kernel) (by kernel_rfl) (by rfl) (by exact fun _ _ _ h => h) (by rfl) ?_ (by assumption) ?_); rotate_left; (focus (intro w hSw; (try dsimp only at hSw); go_simp; (try with_reducible rfl); done)); (try simp only [Act.put, List.setIfInBounds_toArray, List.set_cons_zero, List.set_cons_succ])
  refine nextH (i := 3) (by decide +kernel) (by rfl) (by rfl) (fun K hK => ?_)
  (go_simp; go_at_call 123; (refine (l23Now_c w.heap.size (w.heap.size + 1) _ w2.heap.size 0 x.since _ HS4.out (by omega) (HQ4.out.box 4 _ rfl) (by omega) (by simp; omega)).mono ?_); (rintro e w5 ⟨n, rfl, hs5, hc5⟩); (have z5 : w4.heap.size ≤ w5.heap.size := by have := hc5.size; simpa using this); (have R5 := HR4.out.chg hc5 (by simp; omega) (by omega)); (have Q5 := Lib.hid (HQ4.out.chg hc5 (by simp; omega) (by omega))); (obtain ⟨r0, r1, r2, r3, r4, r5, r6⟩ := (⟨R5.box 0 _ rfl, R5.box 1 _ rfl, R5.box 2 _ rfl, R5.box 3 _ rfl, R5.box 4 _ rfl, R5.box 5 _ rfl, R5.box 6 _ rfl⟩ : _ ∧ _ ∧ _ ∧ _ ∧ _ ∧ _ ∧ _)); (have rf := R5.free); (have lR := R5.lt (by simp)); (have HB5 := Lib.hid (hc5.below HB4.out (by omega))); (have HW5 := Lib.hid (HW4.out.chg hc5 (by omega))); clear hs5 hc5 R5)
  refine hK.out _ _ ?_ (fun hHeld' => ?_)
  (focus ((try dsimp only); (first | done | ((first | (with_reducible exact qq) | (exact HSK.out _ (by ((try with_reducible refine Bx.drew ?_); repeat (first | (with_reducible exact Q5.out) | ((with_reducible refine Bx.other ?_ _ ?_ _); rotate_left; (simp; omega)))))) | exact qq); done))))
  clear hK K hHeld
  have hHeld := hHeld'
  clear hHeld'
  (try simp only [Act.put, List.setIfInBounds_toArray, List.set_cons_zero, List.set_cons_succ])
  refine nextH (i := 4) (by decide +kernel) (by rfl) (by rfl) (fun K hK => ?_)
  go_simp
  (skip)
  refine hK.out _ _ ?_ (fun hHeld' => ?_)
  (focus ((try dsimp only); (first | done | ((first | (with_reducible exact qq) | (exact HSK.out _ (by ((try with_reducible refine Bx.drew ?_); repeat (first | (with_reducible exact Q5.out) | ((with_reducible refine Bx.other ?_ _ ?_ _); rotate_left; (simp; omega)))))) | exact qq); done))))
  clear hK K hHeld
  have hHeld := hHeld'
  clear hHeld'
  (try simp only [Act.put, List.setIfInBounds_toArray, List.set_cons_zero, List.set_cons_succ])
  (refine takeH (i := 5) (v := ?_) (by decide +kernel) (by decide +kernel) (by kernel_rfl) (by rfl) (by exact fun _ _ _ h => h) (by rfl) ?_ (by assumption) ?_); rotate_left; (focus (intro w hSw; (try dsimp only at hSw); go_simp; (try with_reducible rfl); done)); (try simp only [Act.put, List.setIfInBounds_toArray, List.set_cons_zero, List.set_cons_succ])
  (refine takeH (i := 6) (v := ?_) (by decide +kernel) (by decide +kernel) (by kernel_rfl) (by rfl) (by exact fun _ _ _ h => h) (by rfl) ?_ (by assumption) ?_); rotate_left; (focus (intro w hSw; (try dsimp only at hSw); go_simp; (try with_reducible rfl); done)); (try simp only [Act.put, List.setIfInBounds_toArray, List.set_cons_zero, List.set_cons_succ])
  refine wpAnyH_done (by decide +kernel) ?_ _
  clear hHeld qq
  go_wp2
  refine bodyPost_ret (v := .tuple #[x.val a c, .int .i64 _, .int .i64 n]) (by simp [results, Try.results34, go_sem, r0, r1, r2, r3, r4, r5, r6, rf, lR, Ck.val, Ck.cells]; rfl) rfl ⟨x, a, c, _, n, rfl, ?_, HL.out, ?_⟩
  · have k9 := HW5.out
    have k8 := z1
    refine CkRow.le (lo := w1.heap.size) ?_ (by omega)
    repeat (first | (with_reducible exact k9) | ((with_reducible refine CkRow.setD ?_ ?_ _); rotate_left; (simp <;> omega)))
  · have k9 := HB5.out
    repeat (first | (with_reducible exact k9) | ((with_reducible refine Below.setCell ?_ ?_ _); rotate_left; (simp <;> omega)))
set_option maxRecDepth 100000 in
set_option maxHeartbeats 8000000 in
theorem DrawAddTime_c (ca : Option Addr) (cc : Nat) (bs : List Int) (w : World) (h : ByteP w.heap.size ca bs w) :
    Calls Try.prog 46 #[.slice ca bs.length cc] w fun e w' => ∃ (x : Ck) (a : Option Addr) (c : Nat) (pl n : Int), e = .returned (.tuple #[x.val a c, .int .i64 pl, .int .i64 n]) ∧ (-36000001 ≤ n ∧ n ≤ 36000001) ∧ CkOut w w' x a := by
  have B0 := below_alloc1 w (.cells ckZero 53)
  have h1 := h.keep (fun k hk => B0.block k hk)
  have R0 := Bx.alloc w ckZero 53 rfl
  go_enter Try.func46, Try.ntmps46
  go_wp2_with fail
  refine (l00From_c w.heap.size ca cc bs _ h1 (by simp)).mono ?_
  rintro e w1 ⟨rfl, hs1, hb1⟩
  simp only [World.size_alloc] at hs1 hb1 ⊢
  have z1 := hs1.lt
  have B1 := B0.trans (hb1.mono (by omega))
  have R1 := R0.below hb1 (by omega)
  have S1 := Lib.hid hs1
  clear hs1 hb1 R0 B0 h h1
  go_wp2_with fail
  refine (l23Bent_c w.heap.size (w.heap.size + 1) 0 _ S1.out (by omega) (by omega) z1.1).mono ?_
  rintro e w2 ⟨x, a, c, rfl, hxl, hr2, hs2, hc2⟩
  have z2 : w1.heap.size ≤ w2.heap.size := hc2.size
  have B2 := (hc2.below B1 (by omega)).alloc (by omega) (.cells (x.cells a c) 53)
  have R2 := (R1.chg hc2 (by omega) (by omega)).allocO (by omega) (x.cells a c) 53
  have Q2 := Bx.alloc (n := w2.heap.size) w2 (x.cells a c) 53 rfl
  have S2 := Lib.hid (hs2.allocN (x.cells a c) 53)
  have W2 : CkRow (w2.alloc (.cells (x.cells a c) 53)) w1.heap.size a x := hr2.chg (Chg.ofBelow (lo := 0) (hi := 0) (below_alloc1 w2 _)) (by omega)
  have HL := Lib.hid hxl
  clear hr2 hs2 hc2 R1 B1 S1 hxl
  go_wp2_with fail
  refine (pick_c w.heap.size (w.heap.size + 1) _ 20 _ S2.out (by omega) (by omega)).mono ?_
  rintro e w3 ⟨p1, rfl, p10, p11, hs3, hc3⟩
  have z3 : w2.heap.size + 1 ≤ w3.heap.size := by have := hc3.size; simpa using this
  have B3 := hc3.below B2 (by omega)
  have R3 := R2.chg hc3 (by simp; omega) (by omega)
  have Q3 := Q2.chg hc3 (by simp) (by omega)
  have W3 := W2.chg hc3 (by omega)
  have S3 := Lib.hid hs3
  clear hs3 hc3 R2 B2 S2 Q2 W2
  go_wp2_with fail
  refine (pick_c w.heap.size (w.heap.size + 1) _ 20 _ S3.out (by omega) (by omega)).mono ?_
  rintro e w4 ⟨p2, rfl, p20, p21, hs4, hc4⟩
  have z4 : w3.heap.size ≤ w4.heap.size := hc4.size
  have B4 := hc4.below B3 (by omega)
  have R4 := R3.chg hc4 (by omega) (by omega)
  have Q4 := Q3.chg hc4 (by omega) (by omega)
  have W4 := W3.chg hc4 (by omega)
  have S4 := Lib.hid hs4
  clear hs4 hc4 R3 B3 S3 Q3 W3
  go_wp2_with fail
  refine (pick_c w.heap.size (w.heap.size + 1) _ 40000 _ S4.out (by omega) (by omega)).mono ?_
  rintro e w5 ⟨t, rfl, t0, t1, hs5, hc5⟩
  have z5 : w4.heap.size ≤ w5.heap.size := hc5.size
  have B5 := hc5.below B4 (by omega)
  have R5 := R4.chg hc5 (by omega) (by omega)
  have Q5 := Q4.chg hc5 (by omega) (by omega)
  have W5 := W4.chg hc5 (by omega)
  have S5 := Lib.hid hs5
  clear hs5 hc5 R4 B4 S4 Q4 W4
  go_wp2_with fail
  refine (one_c w.heap.size (w.heap.size + 1) _ 8 _ S5.out (by omega) (by omega)).mono ?_
  rintro e w6 ⟨f, rfl, hs6, hc6⟩
  have z6 : w5.heap.size ≤ w6.heap.size := hc6.size
  have B6 := hc6.below B5 (by omega)
  have R6 := R5.chg hc6 (by omega) (by omega)
  have Q6 := Q5.chg hc6 (by omega) (by omega)
  have W6 := W5.chg hc6 (by omega)
  have S6 := Lib.hid hs6
  clear hs6 hc6 R5 B5 S5 Q5 W5
  cases f
  · obtain ⟨q0, q1, q2, q3, q4, q5, q6⟩ := Ck.boxc Q6.box
    obtain ⟨r0, r1, r2, r3, r4, r5, r6⟩ := (⟨R6.box 0 _ rfl, R6.box 1 _ rfl, R6.box 2 _ rfl, R6.box 3 _ rfl, R6.box 4 _ rfl, R6.box 5 _ rfl, R6.box 6 _ rfl⟩ : _ ∧ _ ∧ _ ∧ _ ∧ _ ∧ _ ∧ _)
    have rf := R6.free
    have lR := R6.lt (by simp)
    have HB6 := Lib.hid B6
    have HW6 := Lib.hid W6
    clear B6 W6 R6 Q6
    go_wp2
    refine bodyPost_ret (v := .tuple #[x.val a c, .int .i64 _, .int .i64 (t - 20000)]) (by simp [results, Try.results46, go_sem, r0, r1, r2, r3, r4, r5, r6, rf, lR, Ck.val, Ck.cells]; rfl) rfl ⟨x, a, c, _, t - 20000, rfl, by omega, ?_, HL.out, ?_⟩
    · have k9 := HW6.out
      have k8 := z1
      refine CkRow.le (lo := w1.heap.size) ?_ (by omega)
      repeat (first | (with_reducible exact k9) | ((with_reducible refine CkRow.setD ?_ ?_ _); rotate_left; (simp <;> omega)))
    · have k9 := HB6.out
      repeat (first | (with_reducible exact k9) | ((with_reducible refine Below.setCell ?_ ?_ _); rotate_left; (simp <;> omega)))
  · have G := Bx.alloc (n := w6.heap.size) w6 #[.int .i64 (-36000001), .int .i64 (-36000000), .int .i64 36000000, .int .i64 36000001] 2 rfl
    have S7 := Lib.hid (S6.out.allocN #[.int .i64 (-36000001), .int .i64 (-36000000), .int .i64 36000000, .int .i64 36000001] 2)
    have B7 := B6.alloc (by omega) (.cells #[.int .i64 (-36000001), .int .i64 (-36000000), .int .i64 36000000, .int .i64 36000001] 2)
    have R7 := R6.allocO (by omega) #[.int .i64 (-36000001), .int .i64 (-36000000), .int .i64 36000000, .int .i64 36000001] 2
    have Q7 := Q6.allocO (by omega) #[.int .i64 (-36000001), .int .i64 (-36000000), .int .i64 36000000, .int .i64 36000001] 2
    have W7 : CkRow (w6.alloc (.cells #[.int .i64 (-36000001), .int .i64 (-36000000), .int .i64 36000000, .int .i64 36000001] 2)) w1.heap.size a x := W6.chg (Chg.ofBelow (lo := 0) (hi := 0) (below_alloc1 w6 _)) (by omega)
    clear B6 R6 Q6 W6
    go_wp2_with fail
    refine (among_c w.heap.size (w.heap.size + 1) _ w6.heap.size [-36000001, -36000000, 36000000, 36000001] _ S7.out (by omega) G.box (by omega) (by simp) (by simp)).mono ?_
    rintro e w8 ⟨u, hu, rfl, hs8, hc8⟩
    have z8 : w6.heap.size + 1 ≤ w8.heap.size := by have := hc8.size; simpa using this
    have B8 := hc8.below B7 (by omega)
    have R8 := R7.chg hc8 (by simp; omega) (by omega)
    have Q8 := Q7.chg hc8 (by simp; omega) (by omega)
    have W8 := W7.chg hc8 (by omega)
    have hub : -36000001 ≤ u ∧ u ≤ 36000001 := by simp at hu; omega
    obtain ⟨q0, q1, q2, q3, q4, q5, q6⟩ := Ck.boxc Q8.box
    obtain ⟨r0, r1, r2, r3, r4, r5, r6⟩ := (⟨R8.box 0 _ rfl, R8.box 1 _ rfl, R8.box 2 _ rfl, R8.box 3 _ rfl, R8.box 4 _ rfl, R8.box 5 _ rfl, R8.box 6 _ rfl⟩ : _ ∧ _ ∧ _ ∧ _ ∧ _ ∧ _ ∧ _)
    have rf := R8.free
    have lR := R8.lt (by simp)
    have HB8 := Lib.hid B8
    have HW8 := Lib.hid W8
    clear B8 W8 R8 Q8 B7 R7 Q7 W7 hu hs8 hc8 G
    go_wp2
    refine bodyPost_ret (v := .tuple #[x.val a c, .int .i64 _, .int .i64 u]) (by simp [results, Try.results46, go_sem, r0, r1, r2, r3, r4, r5, r6, rf, lR, Ck.val, Ck.cells]; rfl) rfl ⟨x, a, c, _, u, rfl, by omega, ?_, HL.out, ?_⟩
    · have k9 := HW8.out
      have k8 := z1
      refine CkRow.le (lo := w1.heap.size) ?_ (by omega)
      repeat (first | (with_reducible exact k9) | ((with_reducible refine CkRow.setD ?_ ?_ _); rotate_left; (simp <;> omega)))
    · have k9 := HB8.out
      repeat (first | (with_reducible exact k9) | ((with_reducible refine Below.setCell ?_ ?_ _); rotate_left; (simp <;> omega)))


end Go.Proofs.Ytbjdfgfebepacaa
