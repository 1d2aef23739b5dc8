/- MemD: whether a memory is valid: both sides. Each contract holds for every argument, under the premises that it states. -/
import Derived.Test.YtbjgigdkbjabaaaMemC
namespace Go.Proofs.Ytbjgigdkbjabaaa
set_option linter.unusedSimpArgs false
set_option linter.unusedVariables false
set_option linter.unnecessarySimpa false
open Go.RowKit Go.ChangeShapes Go.WideShapes Go.ChangeAt Go.Joins

/-! ### in plain terms -/
def okGo (r : R) (n : Nat) : List Sl → Nat → Bool
  | [], _ => true
  | x :: l, i => x.okAt r n i && okGo r n l (i + 1)
def meOk (r : R) (xs : List Sl) : Bool := r.ok && inB (xs.length : Int) 1 64 && okGo r xs.length xs 0
theorem meOk_parts {r : R} {xs : List Sl} (h : meOk r xs = true) : r.ok = true ∧ (1 ≤ xs.length ∧ xs.length ≤ 64) ∧ okGo r xs.length xs 0 = true := by
  simp only [meOk, Bool.and_eq_true] at h
  obtain ⟨⟨h1, h2⟩, h3⟩ := h
  have := inB_iff.1 h2
  exact ⟨h1, by omega, h3⟩
theorem okGo_at {r : R} {n : Nat} : ∀ {l : List Sl} {i k : Nat} {x : Sl}, okGo r n l i = true → l[k]? = some x → x.okAt r n ((i + k : Nat) : Int) = true
  | [], i, k, x, h, hx => by simp at hx
  | y :: l, i, 0, x, h, hx => by
    simp only [okGo, Bool.and_eq_true] at h
    simp at hx
    subst hx
    exact h.1
  | y :: l, i, k + 1, x, h, hx => by
    simp only [okGo, Bool.and_eq_true] at h
    have := okGo_at (k := k) h.2 (by simpa using hx)
    rw [show i + 1 + k = i + (k + 1) by omega] at this
    exact this
theorem okGo_step {r : R} {n : Nat} {l : List Sl} {k : Nat} (hk : k < l.length) : okGo r n (l.drop k) k = (l[k].okAt r n k && okGo r n (l.drop (k + 1)) (k + 1)) := by
  rw [List.drop_eq_getElem_cons hk]
  rfl
theorem okGo_end {r : R} {n : Nat} {l : List Sl} {k : Nat} (hk : ¬ k < l.length) : okGo r n (l.drop k) k = true := by
  rw [List.drop_eq_nil_of_le (by omega)]
  rfl

set_option maxRecDepth 100000 in
set_option maxHeartbeats 8000000 in
theorem l16Ok_c (mb mo : Nat) (r : R) (l : List (Sl × SA)) (a : Option Addr) (c : Nat) (w : World) (hr : R.At w mb mo r) (h9 : w.cell? ⟨mb, mo + 9, none⟩ = some (.slice a l.length c)) (h : SRows w a l) (hl : l.length ≤ 1048576) (hm : ∀ x ∈ l, x.1.pits.length ≤ 1048576) :
    Calls Try.prog 71 #[.pointer (some ⟨mb, mo, none⟩)] w fun e w' => e = .returned (.bool (meOk r (l.map Prod.fst))) ∧ Below w.heap.size w w' := by
  have hmb : mb < w.heap.size := World.block_lt_of_cell? w _ h9
  have HC : Hid (∀ W, Below w.heap.size w W → R.At W mb mo r ∧ W.cell? ⟨mb, mo + 9, none⟩ = some (.slice a l.length c) ∧ SRows W a l) := fun W hW => by
    have hc := (bcell hW).1
    exact ⟨hr.below hW hmb, (hc _ _ hmb).trans h9, h.below hW (Nat.le_refl _)⟩
  obtain ⟨Y, hY⟩ : ∃ Y, Y = meOk r (l.map Prod.fst) := ⟨_, rfl⟩
  rw [← hY]
  obtain ⟨b0, hb0⟩ : ∃ b, b = r.ok := ⟨_, rfl⟩
  obtain ⟨b1, hb1⟩ : ∃ b, b = inB (l.length : Int) 1 64 := ⟨_, rfl⟩
  have HE : Hid (Y = (b0 && b1 && okGo r l.length (l.map Prod.fst) 0)) := by unfold Hid; rw [hY, hb0, hb1, meOk, List.length_map]
  have H0 := Lib.hid (hb0 ▸ l02Ok_c mb mo r w hr)
  have H1 := Lib.hid (hb1 ▸ l00In_c (l.length : Int) 1 64)
  have HB1 : Hid (b1 = true → 1 ≤ l.length ∧ l.length ≤ 64) := fun e => by subst hb1; have := inB_iff.1 e; omega
  have HM := Lib.hid hm
  clear hb0 hb1 hY hr h hm
  go_enter Try.func71, Try.ntmps71
  go_wp2_with fail
  refine H0.out.mono ?_
  rintro e w1 ⟨rfl, rfl⟩
  cases b0
  · go_wp2
    go_ret
    exact ⟨by rw [HE.out]; rfl, Below.refl _ _⟩
  go_wp2_with fail
  refine (H1.out _).mono ?_
  rintro e w1 ⟨rfl, rfl⟩
  cases b1
  · go_wp2
    go_ret
    exact ⟨by rw [HE.out]; rfl, Below.refl _ _⟩
  have HL := Lib.hid (HB1.out rfl)
  clear HB1 H0 H1 h9
  go_upto_region 3 with fail
  go_wp2_with fail
  go_loopw [3] (fun i wr => ∃ (k : Nat), i = .int .i64 k ∧ k ≤ l.length ∧ Hid (Below w.heap.size w wr) ∧ Hid (Y = okGo r l.length ((l.map Prod.fst).drop k) k)) (fun i _ => l.length - (intOf i).toNat)
  case atStart => exact ⟨0, rfl, Nat.zero_le _, Lib.hid (Below.refl _ _), Lib.hid (by rw [HE.out]; rfl)⟩
  case round =>
    obtain ⟨k, rfl, hk, HB, HY⟩ := hrel
    obtain ⟨hr, h9, hs⟩ := HC.out _ HB.out
    by_cases hlt : k < l.length
    · have hkI : (k : Int) < (l.length : Int) := by omega
      have HQ := Lib.hid (l16Slot_c mb mo r l a c k wr hr h9 hs HL.out HM.out hlt)
      have HZ : Hid (Y = (l[k].1.okAt r l.length k && okGo r l.length ((l.map Prod.fst).drop (k + 1)) (k + 1))) := by
        unfold Hid
        rw [HY.out, okGo_step (by simpa using hlt)]
        simp
      obtain ⟨b, hb⟩ : ∃ b, b = l[k].1.okAt r l.length k := ⟨_, rfl⟩
      rw [← hb] at HQ HZ
      clear hb hs hr HE HY
      go_wp2_with fail
      refine HQ.out.mono ?_
      rintro e w2 ⟨rfl, hb2⟩
      have HB2 := Lib.hid (below_next HB.out hb2)
      clear hb2
      cases b
      · go_wp2
        go_ret
        exact ⟨by rw [HZ.out]; rfl, HB2.out⟩
      · go_wp2
        go_roundw
        case rel => exact ⟨k + 1, by go_num, by omega, HB2, Lib.hid (by rw [HZ.out]; rfl)⟩
        case measure => simp [intOf]; omega
    · have hkI : ¬ (k : Int) < (l.length : Int) := by omega
      clear hr hs
      go_wp2
      go_ret
      exact ⟨by rw [HY.out, okGo_end (by simpa using hlt)]; rfl, HB.out⟩

set_option maxRecDepth 100000 in
set_option maxHeartbeats 8000000 in
theorem ValidMemory_c (r : R) (l : List (Sl × SA)) (a : Option Addr) (c : Nat) (w : World) (h : SRows w a l) (hl : l.length ≤ 1048576) (hm : ∀ x ∈ l, x.1.pits.length ≤ 1048576) :
    Calls Try.prog 75 #[meVal r a l.length c] w fun e w' => e = .returned (.bool (meOk r (l.map Prod.fst))) ∧ Below w.heap.size w w' := by
  have F0 := (Fr.start w).alloc #[.int .i64 r.pits, .int .i64 r.seeds, .bool r.stores, .bool r.skip, .bool r.relay, .bool r.feed, .bool r.again, .int .i64 r.capture, .int .i64 r.slam, .slice a l.length c] 52
  obtain ⟨W0, hW0⟩ : ∃ W, W = w.alloc (.cells #[.int .i64 r.pits, .int .i64 r.seeds, .bool r.stores, .bool r.skip, .bool r.relay, .bool r.feed, .bool r.again, .int .i64 r.capture, .int .i64 r.slam, .slice a l.length c] 52) := ⟨_, rfl⟩
  rw [← hW0] at F0
  have HC : Hid (∀ W, Below W0.heap.size W0 W → (W.cell? ⟨w.heap.size, 0, none⟩ = some (.int .i64 r.pits) ∧ W.cell? ⟨w.heap.size, 1, none⟩ = some (.int .i64 r.seeds) ∧ W.cell? ⟨w.heap.size, 2, none⟩ = some (.bool r.stores) ∧ W.cell? ⟨w.heap.size, 3, none⟩ = some (.bool r.skip) ∧ W.cell? ⟨w.heap.size, 4, none⟩ = some (.bool r.relay) ∧ W.cell? ⟨w.heap.size, 5, none⟩ = some (.bool r.feed) ∧ W.cell? ⟨w.heap.size, 6, none⟩ = some (.bool r.again) ∧ W.cell? ⟨w.heap.size, 7, none⟩ = some (.int .i64 r.capture) ∧ W.cell? ⟨w.heap.size, 8, none⟩ = some (.int .i64 r.slam) ∧ W.cell? ⟨w.heap.size, 9, none⟩ = some (.slice a l.length c)) ∧ SRows W a l ∧ Below w.heap.size w W) := fun W hW => by
    have F := F0.step hW
    exact ⟨me_box (F.at 0 rfl), h.below F.below (Nat.le_refl _), F.below⟩
  have HW0 := Lib.hid hW0
  obtain ⟨c0, c1, c2, c3, c4, c5, c6, c7, c8, c9⟩ := (HC.out _ (Below.refl _ _)).1
  obtain ⟨Y, hY⟩ : ∃ Y, Y = meOk r (l.map Prod.fst) := ⟨_, rfl⟩
  rw [← hY]
  obtain ⟨b0, hb0⟩ : ∃ b, b = r.ok := ⟨_, rfl⟩
  obtain ⟨b1, hb1⟩ : ∃ b, b = inB (l.length : Int) 1 64 := ⟨_, rfl⟩
  have HE : Hid (Y = (b0 && b1 && okGo r l.length (l.map Prod.fst) 0)) := by unfold Hid; rw [hY, hb0, hb1, meOk, List.length_map]
  have H0 := Lib.hid (hb0 ▸ ValidRules_c r)
  have H1 := Lib.hid (hb1 ▸ between_c (l.length : Int) 1 64)
  have HB1 : Hid (b1 = true → 1 ≤ l.length ∧ l.length ≤ 64) := fun e => by subst hb1; have := inB_iff.1 e; omega
  have HM := Lib.hid hm
  clear hb0 hb1 hY h hm hW0 F0
  go_enter Try.func75, Try.ntmps75
  go_upto_region 1 with fail
  rw [← HW0.out]
  go_wp2_with fail
  refine (H0.out _).mono ?_
  rintro e w1 ⟨rfl, hb1⟩
  obtain ⟨c0, c1, c2, c3, c4, c5, c6, c7, c8, c9⟩ := (HC.out _ hb1).1
  have HB := Lib.hid hb1
  have HBw := Lib.hid (HC.out _ hb1).2.2
  clear hb1
  cases b0
  · go_wp2
    go_ret
    exact ⟨by rw [HE.out]; rfl, HBw.out⟩
  go_wp2_with fail
  refine (H1.out _).mono ?_
  rintro e w2 ⟨rfl, rfl⟩
  cases b1
  · go_wp2
    go_ret
    exact ⟨by rw [HE.out]; rfl, HBw.out⟩
  have HL := Lib.hid (HB1.out rfl)
  clear HB1 H0 H1
  go_wp2_with fail
  go_loopw [19] (fun i wr => ∃ (k : Nat), i = .int .i64 k ∧ k ≤ l.length ∧ Hid (Below W0.heap.size W0 wr) ∧ Hid (Y = okGo r l.length ((l.map Prod.fst).drop k) k)) (fun i _ => l.length - (intOf i).toNat)
  case atStart => exact ⟨0, rfl, Nat.zero_le _, HB, Lib.hid (by rw [HE.out]; rfl)⟩
  case round =>
    clear c0 c1 c2 c3 c4 c5 c6 c7 c8 c9 HB HBw
    obtain ⟨k, rfl, hk, HB, HY⟩ := hrel
    obtain ⟨⟨c0, c1, c2, c3, c4, c5, c6, c7, c8, c9⟩, hs, hbw⟩ := HC.out _ HB.out
    have HBw := Lib.hid hbw
    by_cases hlt : k < l.length
    · have hkI : (k : Int) < (l.length : Int) := by omega
      obtain ⟨b, off, ha, hb, s0, s1, s2, s3, s4, s5⟩ := hs.at (k := k) (x := l[k]) (by simp [hlt])
      have HI := Lib.hid (hs.items l[k] (List.getElem_mem hlt))
      have HX := Lib.hid (HM.out l[k] (List.getElem_mem hlt))
      have HZ : Hid (Y = (l[k].1.okAt r l.length k && okGo r l.length ((l.map Prod.fst).drop (k + 1)) (k + 1))) := by
        unfold Hid
        rw [HY.out, okGo_step (by simpa using hlt)]
        simp
      obtain ⟨y, hy⟩ : ∃ y, y = l[k] := ⟨_, rfl⟩
      rw [← hy] at s0 s1 s2 s3 s4 s5 HI HX HZ
      clear hy hbw HE HY
      obtain ⟨x, ka⟩ := y
      dsimp only at s0 s1 s2 s3 s4 s5 HI HX HZ
      have HA := Lib.hid ha
      subst ha
      have FV := (Fr.start wr).alloc #[.bool x.used, .slice ka.qa x.pits.length ka.qc, .int .i64 x.player, .int .i64 x.depth, .int .i64 x.value, .int .i64 x.bound] 113
      obtain ⟨V, hV⟩ : ∃ V, V = wr.alloc (.cells #[.bool x.used, .slice ka.qa x.pits.length ka.qc, .int .i64 x.player, .int .i64 x.depth, .int .i64 x.value, .int .i64 x.bound] 113) := ⟨_, rfl⟩
      rw [← hV] at FV
      have hbV : Below wr.heap.size wr V := FV.below
      obtain ⟨t0, t1, t2, t3, t4, t5⟩ := sl_box (FV.at 0 rfl)
      obtain ⟨⟨d0, d1, d2, d3, d4, d5, d6, d7, d8, d9⟩, _, _⟩ := HC.out V (below_next HB.out hbV)
      have HBV := Lib.hid (below_next HB.out hbV)
      have HQ := Lib.hid (validSlot_c r (some ⟨b, off, none⟩) l.length c k x ka V (HI.out.below hbV (Nat.le_refl _)) HL.out HX.out)
      obtain ⟨bb, hbb⟩ : ∃ bb, bb = x.okAt r l.length k := ⟨_, rfl⟩
      rw [← hbb] at HQ HZ
      have HV := Lib.hid hV
      clear hbb hbV hV FV hs HI
      go_upto_region 6 with fail
      rw [← HV.out]
      clear HV s0 s1 s2 s3 s4 s5 c0 c1 c2 c3 c4 c5 c6 c7 c8 c9
      go_wp2_with fail
      refine HQ.out.mono ?_
      rintro e w2 ⟨rfl, hb2⟩
      have HB2 := Lib.hid (below_next HBV.out hb2)
      clear hb2 t0 t1 t2 t3 t4 t5 d0 d1 d2 d3 d4 d5 d6 d7 d8 d9
      cases bb
      · go_wp2
        go_ret
        exact ⟨by rw [HZ.out]; rfl, (HC.out _ HB2.out).2.2⟩
      · go_wp2
        go_roundw
        case rel => exact ⟨k + 1, by go_num, by omega, HB2, Lib.hid (by rw [HZ.out]; rfl)⟩
        case measure => simp [intOf]; omega
    · have hkI : ¬ (k : Int) < (l.length : Int) := by omega
      clear hs hbw
      go_wp2
      go_ret
      exact ⟨by rw [HY.out, okGo_end (by simpa using hlt)]; rfl, HBw.out⟩

end Go.Proofs.Ytbjgigdkbjabaaa
