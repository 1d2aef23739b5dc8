/- The law FnFields returns true for every argument, and every argument reads afterwards as before. No conditions. -/
import Derived.Test.YtbjdfgfebepacaaFew2
import Derived.Test.YtbjdfgfebepacaaFew3
import Derived.Test.YtbjdfgfebepacaaFldV
namespace Go.Proofs.Ytbjdfgfebepacaa.lFields
set_option linter.unusedSimpArgs false
set_option linter.unusedVariables false
set_option linter.unnecessarySimpa false
open Go.RowKit Go.ChangeShapes Go.WideShapes Go.ChangeAt Go.Joins
open Go.ChangeMaps (open_string)

set_option maxHeartbeats 400000 in
@[simp] theorem run_neq_rules (p s c l p' s' c' l' : Int) (t k e f g t' k' e' f' g' : Bool) (w : World) :
   (binOp .neq 25 (.agg #[.int .i64 p, .int .i64 s, .bool t, .bool k, .bool e, .bool f, .bool g, .int .i64 c, .int .i64 l]) (.agg #[.int .i64 p', .int .i64 s', .bool t', .bool k', .bool e', .bool f', .bool g', .int .i64 c', .int .i64 l'])).run Try.prog w = .ok (.bool (!rEq ⟨p, s, t, k, e, f, g, c, l⟩ ⟨p', s', t', k', e', f', g', c', l'⟩)) w := by
  simp [go_sem]
  repeat' split
  all_goals (try simp_all [rEq])
theorem byteP_up {base base' : Nat} {ca : Option Addr} {bs : List Int} {w : World} (h : ByteP base ca bs w) (hb : base ≤ base') : ByteP base' ca bs w := ⟨h.row, h.rng, h.len, fun cb co s e hp => Nat.lt_of_lt_of_le (h.low cb co s e hp) hb⟩
theorem diffP_cases (a b : R) : ((DiffP a b).2 = 0 ∧ a = b ∧ (DiffP a b).1 = []) ∨ ((DiffP a b).2 = 0 ∧ ¬ a = b ∧ 0 < (DiffP a b).1.length) ∨ (¬ (DiffP a b).2 = 0) := by
  unfold DiffP
  by_cases h : (a.ok && b.ok) = true
  · rw [if_pos h]
    by_cases e : a = b
    · exact .inl ⟨rfl, e, diffK_nil.2 e⟩
    · refine .inr (.inl ⟨rfl, e, ?_⟩)
      apply List.length_pos_iff.2
      intro h2
      exact e (diffK_nil.1 h2)
  · rw [if_neg h]
    exact .inr (.inr (by decide))
theorem diffP_len (a b : R) : (DiffP a b).1.length ≤ 9 := by
  unfold DiffP
  split
  · exact diffK_len a b 9
  · simp
theorem diffP_ok {a b : R} (ha : a.ok = true) (hb : b.ok = true) : DiffP a b = (diffK a b 9, 0) := by simp [DiffP, ha, hb]
theorem std_ok (k : Nat) (hk : k < 4) : (stdR k).ok = true := (R.ok_iff.1 (std_drawn k hk).1) |> fun _ => (std_drawn k hk).1

set_option maxRecDepth 100000 in
set_option maxHeartbeats 16000000 in
theorem walk (ca : Option Addr) (cc : Nat) (bs : List Int) (w : World) (hm1 : bs.length ≤ maxLen) (hb : bs.length ≤ 4096 → ByteP w.heap.size ca bs w) :
    Calls Try.prog 3 #[.slice ca bs.length cc] w fun e w' => e = .returned (.bool true) ∧ Below w.heap.size w w' := by
  by_cases hl : 4096 < (bs.length : Int)
  · have HL : decide (4096 < (bs.length : Int)) = true := by simpa using hl
    clear hb hl
    go_enter Try.func3, Try.ntmps3
    go_wp2_with fail
    refine (f6bigF_c ca _ cc _ hm1).mono ?_
    rintro e w1 ⟨rfl, rfl⟩
    rw [HL]
    go_wp2
    go_ret
    exact ⟨rfl, Below.refl _ _⟩
  have HB := Lib.hid (hb (by omega))
  have HL : decide (4096 < (bs.length : Int)) = false := by simp; omega
  clear hb hl
  go_enter Try.func3, Try.ntmps3
  go_wp2_with fail
  refine (f6bigF_c ca _ cc _ hm1).mono ?_
  rintro e w1 ⟨rfl, rfl⟩
  rw [HL]
  clear hm1 HL
  go_wp2_with fail
  refine (DrawSetField_c ca cc bs _ HB.out).mono ?_
  rintro e w2 ⟨r, nm, v, rfl, hb2⟩
  have F2 := (Fr.start w2).alloc r.cells 25
  have HW : Hid (∀ W, Below w2.heap.size w2 W → Below w.heap.size w W) := fun W hW => below_next hb2 hW
  obtain ⟨y, hy⟩ : ∃ y, y = setP r nm v := ⟨_, rfl⟩
  have HS1 := fun W => iSetField_c r nm v W
  have HS2 := fun W => sSetField_c r nm v W
  rw [← hy] at HS1 HS2
  have HSP : Hid (y.2 = 0 → r.ok = true ∧ y.1.ok = true ∧ FieldOfP y.1 nm = (v, 0) ∧ (diffK r y.1 9 = [] ∨ diffK r y.1 9 = [nm])) := by
    intro h
    rw [hy] at h ⊢
    exact setP_hold h
  clear hy hb2
  obtain ⟨x, code⟩ := y
  dsimp only at HS1 HS2 HSP
  have HS1 := Lib.hid HS1
  have HS2 := Lib.hid HS2
  go_wp2_with fail
  refine (HS1.out _).mono ?_
  rintro e w3 ⟨rfl, hb3⟩
  have G3 := F2.step hb3
  have F3 := G3.alloc x.cells 25
  have zA : w2.heap.size < w3.heap.size := G3.le 0 rfl
  obtain ⟨c0, c1, c2, c3, c4, c5, c6, c7, c8⟩ := R.boxc (G3.at 0 rfl)
  clear hb3 HS1 F2 G3
  go_wp2_with fail
  refine (HS2.out _).mono ?_
  rintro e w4 ⟨rfl, hb4⟩
  have G4 := F3.step hb4
  have F4 := G4.alloc x.cells 25
  clear hb4 HS2 F3 G4 zA c0 c1 c2 c3 c4 c5 c6 c7 c8
  have HB4 := Lib.hid (byteP_up (HB.out.keep (fun k hk => (HW.out _ F4.below).block k hk)) (HW.out _ F4.below).size)
  go_wp2_with fail
  refine (DrawDifferentFields_c ca cc bs _ HB4.out).mono ?_
  rintro e w5 ⟨a, b, rfl, hb5⟩
  have F5 := ((F4.step hb5).alloc a.cells 25).alloc b.cells 25
  obtain ⟨d, hd⟩ : ∃ d, d = DiffP a b := ⟨_, rfl⟩
  have HD1 := fun W => iDifferentFields_c a b W
  have HD2 := fun W => sDifferentFields_c a b W
  have HDC := diffP_cases a b
  have HDL := diffP_len a b
  rw [← hd] at HD1 HD2 HDC HDL
  obtain ⟨dl, dc⟩ := d
  dsimp only at HDC HDL
  have HD1 := Lib.hid HD1
  have HD2 := Lib.hid HD2
  have HDC := Lib.hid HDC
  have HDL := Lib.hid HDL
  clear hd hb5 F4 HB4 HB
  go_wp2_with fail
  refine (HD1.out _).mono ?_
  rintro e w6 ⟨a6, k6, rfl, ho6, hb6⟩
  have F6 := (F5.step hb6).ownV ho6
  have zA : w5.heap.size < w6.heap.size := F6.le 2 rfl
  have zB : w5.heap.size + 1 < w6.heap.size := by have := F6.le 1 rfl; simp at this; omega
  obtain ⟨c0, c1, c2, c3, c4, c5, c6, c7, c8⟩ := R.boxc (F6.at 2 rfl)
  obtain ⟨d0, d1, d2, d3, d4, d5, d6, d7, d8⟩ := R.boxc (F6.at 1 rfl)
  simp only [World.size_alloc] at d0 d1 d2 d3 d4 d5 d6 d7 d8
  clear hb6 ho6 HD1 F5
  go_wp2_with fail
  refine (HD2.out _).mono ?_
  rintro e w7 ⟨a7, k7, rfl, ho7, hb7⟩
  have F7 := (F6.step hb7).ownV ho7
  clear hb7 ho7 HD2 F6 zA zB c0 c1 c2 c3 c4 c5 c6 c7 c8 d0 d1 d2 d3 d4 d5 d6 d7 d8
  obtain ⟨q, hq⟩ : ∃ q, q = nearP r := ⟨_, rfl⟩
  have HN1 := fun W => iNearestGame_c r W
  have HN2 := fun W => sNearestGame_c r W
  rw [← hq] at HN1 HN2
  have HQ := Lib.hid hq
  have HN1 := Lib.hid HN1
  have HN2 := Lib.hid HN2
  clear hq
  obtain ⟨gm, gn, gc⟩ := q
  dsimp only at HN1 HN2
  have zA : w2.heap.size < w7.heap.size := F7.le 6 rfl
  obtain ⟨c0, c1, c2, c3, c4, c5, c6, c7, c8⟩ := R.boxc (F7.at 6 rfl)
  go_wp2_with fail
  refine (HN1.out _).mono ?_
  rintro e w8 ⟨rfl, hb8⟩
  have F8 := F7.step hb8
  clear hb8 HN1 F7 zA c0 c1 c2 c3 c4 c5 c6 c7 c8
  have zA : w2.heap.size < w8.heap.size := F8.le 6 rfl
  obtain ⟨c0, c1, c2, c3, c4, c5, c6, c7, c8⟩ := R.boxc (F8.at 6 rfl)
  go_wp2_with fail
  refine (HN2.out _).mono ?_
  rintro e w9 ⟨rfl, hb9⟩
  have F9 := F8.step hb9
  clear hb9 HN2 F8 zA c0 c1 c2 c3 c4 c5 c6 c7 c8
  have HR1 := Lib.hid (own_row (F9.at 1 rfl).1)
  have HR2 := Lib.hid (own_row (F9.at 0 rfl).1)
  have zA : w3.heap.size < w9.heap.size := F9.le 5 rfl
  have zB : w4.heap.size < w9.heap.size := F9.le 4 rfl
  obtain ⟨c0, c1, c2, c3, c4, c5, c6, c7, c8⟩ := R.boxc (F9.at 5 rfl)
  obtain ⟨d0, d1, d2, d3, d4, d5, d6, d7, d8⟩ := R.boxc (F9.at 4 rfl)
  have hxx := rEq_self x
  go_wp2_with fail
  refine (f6texts_c dl a6 a7 k6 k7 _ HR1.out HR2.out (by have := HDL.out; omega)).mono ?_
  rintro e w10 ⟨rfl, hb10⟩
  have F10 := F9.step hb10
  clear hb10 F9 HR1 HR2 zA zB hxx c0 c1 c2 c3 c4 c5 c6 c7 c8 d0 d1 d2 d3 d4 d5 d6 d7 d8
  have HFW := Lib.hid (fun W (hW : Below w10.heap.size w10 W) => HW.out _ (F10.step hW).below)
  have zA : w5.heap.size < w10.heap.size := F10.le 3 rfl
  have zB : w5.heap.size + 1 < w10.heap.size := by have := F10.le 2 rfl; simp at this; omega
  obtain ⟨c0, c1, c2, c3, c4, c5, c6, c7, c8⟩ := R.boxc (F10.at 3 rfl)
  obtain ⟨d0, d1, d2, d3, d4, d5, d6, d7, d8⟩ := R.boxc (F10.at 2 rfl)
  simp only [World.size_alloc] at d0 d1 d2 d3 d4 d5 d6 d7 d8
  rcases HDC.out with ⟨h1, h2, h3⟩ | ⟨h1, h2, h3⟩ | h1
  · subst h1
    subst h2
    subst h3
    have hab := rEq_self a
    go_upto_region 15 with fail
    clear hab HDC HDL zA zB c0 c1 c2 c3 c4 c5 c6 c7 c8 d0 d1 d2 d3 d4 d5 d6 d7 d8
    cases hok : r.ok
    · have hq := HQ.out
      rw [nearP_bad hok] at hq
      have hc : ¬ code = 0 := fun e => by have := (HSP.out e).1; rw [hok] at this; cases this
      have hc2 : (code != 0) = true := by simpa using hc
      obtain ⟨rfl, rfl, rfl⟩ : gm = ⟨#[]⟩ ∧ gn = 0 ∧ gc = 1 := by simpa using hq
      clear hq hc hok HQ HSP
      go_wp2
      go_ret
      exact ⟨rfl, HFW.out _ (Below.refl _ _)⟩
    obtain ⟨k, hk, hqe⟩ := nearP_hold hok
    have hq := HQ.out
    rw [hqe] at hq
    obtain ⟨rfl, hgn, rfl⟩ : gm = stdN k ∧ gn = ((diffK r (stdR k) 9).length : Int) ∧ gc = 0 := by simpa using hq
    have HST := Lib.hid (fun W => iStandardRules_c k hk W)
    have HDS := fun W => iDifferentFields_c r (stdR k) W
    rw [diffP_ok hok (std_ok k hk)] at HDS
    have HDS := Lib.hid HDS
    have HGN := Lib.hid hgn
    have HOK := Lib.hid hok
    obtain ⟨sr, hsr⟩ : ∃ s, s = stdR k := ⟨_, rfl⟩
    obtain ⟨sn, hsn⟩ : ∃ s, s = stdN k := ⟨_, rfl⟩
    obtain ⟨dd, hdd⟩ : ∃ s, s = diffK r (stdR k) 9 := ⟨_, rfl⟩
    rw [← hdd, ← hsr] at HDS
    rw [← hsr, ← hsn] at HST
    rw [← hdd] at HGN
    rw [← hsn]
    clear hq hqe hgn hk hsr hsn hdd HQ hok
    go_wp2_with fail
    refine (HST.out _).mono ?_
    rintro e w11 ⟨rfl, hb11⟩
    have G11 := F10.step hb11
    have F11 := G11.alloc sr.cells 25
    have HW11 := Lib.hid (fun W (hW : Below (w11.alloc (.cells sr.cells 25)).heap.size (w11.alloc (.cells sr.cells 25)) W) => HW.out _ (F11.step hW).below)
    have zA : w2.heap.size < w11.heap.size := G11.le 6 rfl
    obtain ⟨c0, c1, c2, c3, c4, c5, c6, c7, c8⟩ := R.boxc (G11.at 6 rfl)
    clear hb11 HST G11
    go_wp2_with fail
    refine (HDS.out _).mono ?_
    rintro e w12 ⟨a12, k12, rfl, ho12, hb12⟩
    have F12 := F11.step hb12
    have HW12 := Lib.hid (fun W (hW : Below w12.heap.size w12 W) => HW.out _ (F12.step hW).below)
    clear hb12 ho12 HDS F11 HW11 HFW zA c0 c1 c2 c3 c4 c5 c6 c7 c8
    have hgq : ((dd.length : Int) != gn) = false := by rw [HGN.out]; simp
    by_cases hc : code = 0
    case neg =>
      have hc2 : (code != 0) = true := by simpa using hc
      clear hc
      go_wp2
      go_ret
      exact ⟨rfl, HW12.out _ (Below.refl _ _)⟩
    obtain ⟨_, hxo, hfo, hdx⟩ := HSP.out hc
    subst hc
    have HF := fun W => iFieldOf_c x nm W
    rw [hfo] at HF
    have HF := Lib.hid HF
    have HDX := fun W => iDifferentFields_c r x W
    rw [diffP_ok HOK.out hxo] at HDX
    obtain ⟨dx, hdxe⟩ : ∃ s, s = diffK r x 9 := ⟨_, rfl⟩
    rw [← hdxe] at HDX hdx
    have HDX := Lib.hid HDX
    have HXX := Lib.hid hdx
    clear hxo hfo hdx hdxe HSP
    have zA : w3.heap.size < w12.heap.size := F12.le 6 rfl
    obtain ⟨c0, c1, c2, c3, c4, c5, c6, c7, c8⟩ := R.boxc (F12.at 6 rfl)
    go_wp2_with fail
    refine (HF.out _).mono ?_
    rintro e w13 ⟨rfl, hb13⟩
    have F13 := F12.step hb13
    clear hb13 HF F12 zA c0 c1 c2 c3 c4 c5 c6 c7 c8 hgq
    have zA : w2.heap.size < w13.heap.size := F13.le 7 rfl
    have zB : w3.heap.size < w13.heap.size := F13.le 6 rfl
    obtain ⟨c0, c1, c2, c3, c4, c5, c6, c7, c8⟩ := R.boxc (F13.at 7 rfl)
    obtain ⟨d0, d1, d2, d3, d4, d5, d6, d7, d8⟩ := R.boxc (F13.at 6 rfl)
    go_wp2_with fail
    refine (HDX.out _).mono ?_
    rintro e w14 ⟨a14, k14, rfl, ho14, hb14⟩
    have F14 := F13.step hb14
    have HR14 := Lib.hid (own_row ho14)
    have HW14 := Lib.hid (fun W (hW : Below w14.heap.size w14 W) => HW.out _ (F14.step hW).below)
    clear hb14 ho14 HDX F13 zA zB c0 c1 c2 c3 c4 c5 c6 c7 c8 d0 d1 d2 d3 d4 d5 d6 d7 d8 F14 F10
    rcases HXX.out with rfl | rfl
    · clear HXX
      go_wp2
      go_ret
      exact ⟨rfl, HW14.out _ (Below.refl _ _)⟩
    · obtain ⟨gb, go, rfl, hgc⟩ := HR14.out 0 (.string nm) rfl
      rw [Nat.add_zero] at hgc
      clear HXX HR14
      go_wp2
      go_ret
      exact ⟨rfl, HW14.out _ (Below.refl _ _)⟩
  · subst h1
    have hab := rEq_ne h2
    have hln : ((dl.length : Int) == 0) = false := by simp; intro e; subst e; simp at h3
    clear h2 h3
    go_upto_region 15 with fail
    clear hab hln HDC HDL zA zB c0 c1 c2 c3 c4 c5 c6 c7 c8 d0 d1 d2 d3 d4 d5 d6 d7 d8
    cases hok : r.ok
    · have hq := HQ.out
      rw [nearP_bad hok] at hq
      have hc : ¬ code = 0 := fun e => by have := (HSP.out e).1; rw [hok] at this; cases this
      have hc2 : (code != 0) = true := by simpa using hc
      obtain ⟨rfl, rfl, rfl⟩ : gm = ⟨#[]⟩ ∧ gn = 0 ∧ gc = 1 := by simpa using hq
      clear hq hc hok HQ HSP
      go_wp2
      go_ret
      exact ⟨rfl, HFW.out _ (Below.refl _ _)⟩
    obtain ⟨k, hk, hqe⟩ := nearP_hold hok
    have hq := HQ.out
    rw [hqe] at hq
    obtain ⟨rfl, hgn, rfl⟩ : gm = stdN k ∧ gn = ((diffK r (stdR k) 9).length : Int) ∧ gc = 0 := by simpa using hq
    have HST := Lib.hid (fun W => iStandardRules_c k hk W)
    have HDS := fun W => iDifferentFields_c r (stdR k) W
    rw [diffP_ok hok (std_ok k hk)] at HDS
    have HDS := Lib.hid HDS
    have HGN := Lib.hid hgn
    have HOK := Lib.hid hok
    obtain ⟨sr, hsr⟩ : ∃ s, s = stdR k := ⟨_, rfl⟩
    obtain ⟨sn, hsn⟩ : ∃ s, s = stdN k := ⟨_, rfl⟩
    obtain ⟨dd, hdd⟩ : ∃ s, s = diffK r (stdR k) 9 := ⟨_, rfl⟩
    rw [← hdd, ← hsr] at HDS
    rw [← hsr, ← hsn] at HST
    rw [← hdd] at HGN
    rw [← hsn]
    clear hq hqe hgn hk hsr hsn hdd HQ hok
    go_wp2_with fail
    refine (HST.out _).mono ?_
    rintro e w11 ⟨rfl, hb11⟩
    have G11 := F10.step hb11
    have F11 := G11.alloc sr.cells 25
    have HW11 := Lib.hid (fun W (hW : Below (w11.alloc (.cells sr.cells 25)).heap.size (w11.alloc (.cells sr.cells 25)) W) => HW.out _ (F11.step hW).below)
    have zA : w2.heap.size < w11.heap.size := G11.le 6 rfl
    obtain ⟨c0, c1, c2, c3, c4, c5, c6, c7, c8⟩ := R.boxc (G11.at 6 rfl)
    clear hb11 HST G11
    go_wp2_with fail
    refine (HDS.out _).mono ?_
    rintro e w12 ⟨a12, k12, rfl, ho12, hb12⟩
    have F12 := F11.step hb12
    have HW12 := Lib.hid (fun W (hW : Below w12.heap.size w12 W) => HW.out _ (F12.step hW).below)
    clear hb12 ho12 HDS F11 HW11 HFW zA c0 c1 c2 c3 c4 c5 c6 c7 c8
    have hgq : ((dd.length : Int) != gn) = false := by rw [HGN.out]; simp
    by_cases hc : code = 0
    case neg =>
      have hc2 : (code != 0) = true := by simpa using hc
      clear hc
      go_wp2
      go_ret
      exact ⟨rfl, HW12.out _ (Below.refl _ _)⟩
    obtain ⟨_, hxo, hfo, hdx⟩ := HSP.out hc
    subst hc
    have HF := fun W => iFieldOf_c x nm W
    rw [hfo] at HF
    have HF := Lib.hid HF
    have HDX := fun W => iDifferentFields_c r x W
    rw [diffP_ok HOK.out hxo] at HDX
    obtain ⟨dx, hdxe⟩ : ∃ s, s = diffK r x 9 := ⟨_, rfl⟩
    rw [← hdxe] at HDX hdx
    have HDX := Lib.hid HDX
    have HXX := Lib.hid hdx
    clear hxo hfo hdx hdxe HSP
    have zA : w3.heap.size < w12.heap.size := F12.le 6 rfl
    obtain ⟨c0, c1, c2, c3, c4, c5, c6, c7, c8⟩ := R.boxc (F12.at 6 rfl)
    go_wp2_with fail
    refine (HF.out _).mono ?_
    rintro e w13 ⟨rfl, hb13⟩
    have F13 := F12.step hb13
    clear hb13 HF F12 zA c0 c1 c2 c3 c4 c5 c6 c7 c8 hgq
    have zA : w2.heap.size < w13.heap.size := F13.le 7 rfl
    have zB : w3.heap.size < w13.heap.size := F13.le 6 rfl
    obtain ⟨c0, c1, c2, c3, c4, c5, c6, c7, c8⟩ := R.boxc (F13.at 7 rfl)
    obtain ⟨d0, d1, d2, d3, d4, d5, d6, d7, d8⟩ := R.boxc (F13.at 6 rfl)
    go_wp2_with fail
    refine (HDX.out _).mono ?_
    rintro e w14 ⟨a14, k14, rfl, ho14, hb14⟩
    have F14 := F13.step hb14
    have HR14 := Lib.hid (own_row ho14)
    have HW14 := Lib.hid (fun W (hW : Below w14.heap.size w14 W) => HW.out _ (F14.step hW).below)
    clear hb14 ho14 HDX F13 zA zB c0 c1 c2 c3 c4 c5 c6 c7 c8 d0 d1 d2 d3 d4 d5 d6 d7 d8 F14 F10
    rcases HXX.out with rfl | rfl
    · clear HXX
      go_wp2
      go_ret
      exact ⟨rfl, HW14.out _ (Below.refl _ _)⟩
    · obtain ⟨gb, go, rfl, hgc⟩ := HR14.out 0 (.string nm) rfl
      rw [Nat.add_zero] at hgc
      clear HXX HR14
      go_wp2
      go_ret
      exact ⟨rfl, HW14.out _ (Below.refl _ _)⟩
  · have hdc : (dc == 0) = false := by simpa using h1
    clear h1
    go_upto_region 15 with fail
    clear hdc HDC HDL zA zB c0 c1 c2 c3 c4 c5 c6 c7 c8 d0 d1 d2 d3 d4 d5 d6 d7 d8
    cases hok : r.ok
    · have hq := HQ.out
      rw [nearP_bad hok] at hq
      have hc : ¬ code = 0 := fun e => by have := (HSP.out e).1; rw [hok] at this; cases this
      have hc2 : (code != 0) = true := by simpa using hc
      obtain ⟨rfl, rfl, rfl⟩ : gm = ⟨#[]⟩ ∧ gn = 0 ∧ gc = 1 := by simpa using hq
      clear hq hc hok HQ HSP
      go_wp2
      go_ret
      exact ⟨rfl, HFW.out _ (Below.refl _ _)⟩
    obtain ⟨k, hk, hqe⟩ := nearP_hold hok
    have hq := HQ.out
    rw [hqe] at hq
    obtain ⟨rfl, hgn, rfl⟩ : gm = stdN k ∧ gn = ((diffK r (stdR k) 9).length : Int) ∧ gc = 0 := by simpa using hq
    have HST := Lib.hid (fun W => iStandardRules_c k hk W)
    have HDS := fun W => iDifferentFields_c r (stdR k) W
    rw [diffP_ok hok (std_ok k hk)] at HDS
    have HDS := Lib.hid HDS
    have HGN := Lib.hid hgn
    have HOK := Lib.hid hok
    obtain ⟨sr, hsr⟩ : ∃ s, s = stdR k := ⟨_, rfl⟩
    obtain ⟨sn, hsn⟩ : ∃ s, s = stdN k := ⟨_, rfl⟩
    obtain ⟨dd, hdd⟩ : ∃ s, s = diffK r (stdR k) 9 := ⟨_, rfl⟩
    rw [← hdd, ← hsr] at HDS
    rw [← hsr, ← hsn] at HST
    rw [← hdd] at HGN
    rw [← hsn]
    clear hq hqe hgn hk hsr hsn hdd HQ hok
    go_wp2_with fail
    refine (HST.out _).mono ?_
    rintro e w11 ⟨rfl, hb11⟩
    have G11 := F10.step hb11
    have F11 := G11.alloc sr.cells 25
    have HW11 := Lib.hid (fun W (hW : Below (w11.alloc (.cells sr.cells 25)).heap.size (w11.alloc (.cells sr.cells 25)) W) => HW.out _ (F11.step hW).below)
    have zA : w2.heap.size < w11.heap.size := G11.le 6 rfl
    obtain ⟨c0, c1, c2, c3, c4, c5, c6, c7, c8⟩ := R.boxc (G11.at 6 rfl)
    clear hb11 HST G11
    go_wp2_with fail
    refine (HDS.out _).mono ?_
    rintro e w12 ⟨a12, k12, rfl, ho12, hb12⟩
    have F12 := F11.step hb12
    have HW12 := Lib.hid (fun W (hW : Below w12.heap.size w12 W) => HW.out _ (F12.step hW).below)
    clear hb12 ho12 HDS F11 HW11 HFW zA c0 c1 c2 c3 c4 c5 c6 c7 c8
    have hgq : ((dd.length : Int) != gn) = false := by rw [HGN.out]; simp
    by_cases hc : code = 0
    case neg =>
      have hc2 : (code != 0) = true := by simpa using hc
      clear hc
      go_wp2
      go_ret
      exact ⟨rfl, HW12.out _ (Below.refl _ _)⟩
    obtain ⟨_, hxo, hfo, hdx⟩ := HSP.out hc
    subst hc
    have HF := fun W => iFieldOf_c x nm W
    rw [hfo] at HF
    have HF := Lib.hid HF
    have HDX := fun W => iDifferentFields_c r x W
    rw [diffP_ok HOK.out hxo] at HDX
    obtain ⟨dx, hdxe⟩ : ∃ s, s = diffK r x 9 := ⟨_, rfl⟩
    rw [← hdxe] at HDX hdx
    have HDX := Lib.hid HDX
    have HXX := Lib.hid hdx
    clear hxo hfo hdx hdxe HSP
    have zA : w3.heap.size < w12.heap.size := F12.le 6 rfl
    obtain ⟨c0, c1, c2, c3, c4, c5, c6, c7, c8⟩ := R.boxc (F12.at 6 rfl)
    go_wp2_with fail
    refine (HF.out _).mono ?_
    rintro e w13 ⟨rfl, hb13⟩
    have F13 := F12.step hb13
    clear hb13 HF F12 zA c0 c1 c2 c3 c4 c5 c6 c7 c8 hgq
    have zA : w2.heap.size < w13.heap.size := F13.le 7 rfl
    have zB : w3.heap.size < w13.heap.size := F13.le 6 rfl
    obtain ⟨c0, c1, c2, c3, c4, c5, c6, c7, c8⟩ := R.boxc (F13.at 7 rfl)
    obtain ⟨d0, d1, d2, d3, d4, d5, d6, d7, d8⟩ := R.boxc (F13.at 6 rfl)
    go_wp2_with fail
    refine (HDX.out _).mono ?_
    rintro e w14 ⟨a14, k14, rfl, ho14, hb14⟩
    have F14 := F13.step hb14
    have HR14 := Lib.hid (own_row ho14)
    have HW14 := Lib.hid (fun W (hW : Below w14.heap.size w14 W) => HW.out _ (F14.step hW).below)
    clear hb14 ho14 HDX F13 zA zB c0 c1 c2 c3 c4 c5 c6 c7 c8 d0 d1 d2 d3 d4 d5 d6 d7 d8 F14 F10
    rcases HXX.out with rfl | rfl
    · clear HXX
      go_wp2
      go_ret
      exact ⟨rfl, HW14.out _ (Below.refl _ _)⟩
    · obtain ⟨gb, go, rfl, hgc⟩ := HR14.out 0 (.string nm) rfl
      rw [Nat.add_zero] at hgc
      clear HXX HR14
      go_wp2
      go_ret
      exact ⟨rfl, HW14.out _ (Below.refl _ _)⟩

set_option maxRecDepth 100000 in
theorem contract (H : Type) (enc : TypeId × Value → H) (W : World) (base : Nat) (args : Array Value) (ds gs : List (DataW H)) (before : List MemPlace)
    (hval : ∀ (j : Nat) t v, Try.f3.params[j]? = some t → args[j]? = some v → Value.okWide Try.prog W .any base t v)
    (hW : DataW.Whole enc Try.prog Try.f3.params.toList Rows.fnFieldsSpec.vars false W args.toList ds gs before) :
    Calls Try.prog 3 args W fun e W' => ∃ v, e = .returned v ∧ Rows.fnFieldsSpec.post enc Try.prog Try.f3 false true false false W args v W' := by
  have hW' := hW
  obtain ⟨p, q, hA0, hV, rfl, hfz, hnd⟩ := hW
  have hA : DataW.TrodAll enc Try.prog W 0 (fun _ => true) true Try.f3.params.toList args.toList ds p := hA0
  rw [Try.params3] at hA hval
  obtain ⟨v0, vs0, d0, ds0, p0, q0, hargs, rfl, rfl, h0, r0⟩ := trodAll_cons hA
  obtain ⟨rfl, rfl, rfl⟩ := trodAll_nil r0
  obtain rfl : args = #[v0] := by cases args; simp_all
  obtain ⟨ba0, bc0, bs0, rfl, w0⟩ := arg_bytes (hval 0 22 v0 rfl rfl) h0
  refine (walk ba0 bc0 bs0 W w0.2.1 w0.2.2.2).mono fun e W' ⟨he, hb⟩ => ?_
  subst he
  exact ⟨_, rfl, law_post hW' hb rfl rfl (by kernel_rfl) rfl⟩

set_option maxRecDepth 100000 in
theorem lifted (os : Os) (started : os.Started) (H : Type) (enc : TypeId × Value → H) :
    ReturnsInHanded {} Try.checked os 3 .any (Rows.fnFieldsSpec.pre6 enc Try.prog Try.f3 Rows.fnFieldsRow.domain false) (Rows.fnFieldsSpec.post enc Try.prog Try.f3 false true false false) := by
  refine returnsInHanded_of_change (C := Try.checked) (s := Rows.fnFieldsSpec) own started (by kernel_rfl) Try.func3
    (ChangeSpec.witness6 (enc := enc) (C := Try.checked) (s := Rows.fnFieldsSpec) false ⟨#[], #[.slice none 0 0], []⟩ 8 (by kernel_rfl) (by kernel_rfl) (by kernel_rfl) (by kernel_rfl)) ?_
  intro W base args ds gs before hval hW _ _
  exact contract H enc W base args ds gs before hval hW

theorem proved : Rows.FnFieldsSaid :=
  OpenClaim.holds_of_wide 3 Try.f3 rfl rfl rfl rfl rfl rfl rfl ⟨rfl, rfl, rfl, rfl, rfl⟩ rfl rfl rfl rfl rfl (by kernel_rfl) Try.func3 (by kernel_rfl)
    (of_decide_eq_true (by kernel_rfl)) (by unfold Func.isWrapper; first | (rw [if_pos (by decide +kernel)]; kernel_rfl) | (rw [if_neg (by decide +kernel)]; exact ⟨rfl, rfl⟩))
    (fun os started H enc _ => lifted os started H enc)
end Go.Proofs.Ytbjdfgfebepacaa.lFields
