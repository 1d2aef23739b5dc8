/- Cap1: captures: the program's functions that tell the pits taken. Each contract holds for every argument, under the premises that it states. -/
import Derived.Test.YtbjgigdkbjabaaaCapP
import Derived.Test.YtbjgigdkbjabaaaSMov
namespace Go.Proofs.Ytbjgigdkbjabaaa
set_option linter.unusedSimpArgs false
set_option linter.unusedVariables false
set_option linter.unnecessarySimpa false
open Go.RowKit Go.ChangeShapes Go.WideShapes Go.ChangeAt Go.Joins

theorem own_cap {w : World} {base size n c : Nat} {e : TypeId} {a : Option Addr} {vs : List Value} (h : w.ownsRow base e size (.slice a n c) n vs) : n ≤ c := by
  obtain ⟨_, ⟨h1, h2⟩ | ⟨g, cap, cur, hv, hb, hg, hn, _⟩⟩ := h
  · omega
  · cases hv; exact hn
/-- a new row of numbers -/
def IntsRes (w : World) (xs : List Int) (e : Ending) (w' : World) : Prop := ∃ a c, e = .returned (.slice a xs.length c) ∧ OwnI w' w.heap.size a c xs ∧ Below w.heap.size w w'
theorem own_none (w : World) (base : Nat) (h : base ≤ w.heap.size) : OwnI (w.alloc (.cells #[] 2)) base (some ⟨w.heap.size, 0, none⟩) 0 [] := by
  have := World.ownsRow_lit (base := base) (e := 2) (size := 1) w #[] 0 h (Nat.zero_le _) rfl
  simpa [OwnI] using this
/-- a row that has grown by some numbers -/
theorem Fr.app {w0 w w4 : World} {lo hi c c4 m : Nat} {a a4 : Option Addr} {xs ys : List Int} {cs : Array Value} {e : TypeId} {ls : List Res} (h : Fr w0 w (⟨lo, hi, RowP lo hi a c xs⟩ :: ls)) (hl : w0.heap.size ≤ lo) (hd : ∀ r ∈ ls, r.hi ≤ lo)
    (hg : (w.alloc (.cells cs e)).grownBy w4 (Value.slice a xs.length c).ownBlock) (ho : w4.ownsRow lo 2 1 (.slice a4 (xs.length + m) c4) (xs.length + m) (xs.map (Value.int .i64) ++ ys.map (Value.int .i64))) (hm : ys.length = m) :
    Fr w0 w4 (⟨lo, w4.heap.size, RowP lo w4.heap.size a4 c4 (xs ++ ys)⟩ :: ls) := by
  have h1 := h.step (below_alloc1 w (.cells cs e))
  have h2 := h1.chg (RowP.chg (h1.at 0 rfl) hg) hl (fun r hr => .inl (hd r hr))
  refine h2.own ?_
  subst hm
  simpa [OwnI] using ho

set_option maxHeartbeats 1000000 in
theorem owner_c (r : R) (n : Nat) (w : World) (hb : r.Bd) (hn : n ≤ 1000) : Calls Try.prog 161 #[r.val, .int .i64 n] w fun e w' => e = .returned (.int .i64 ((n : Int) / r.pits)) ∧ Below w.heap.size w w' := by
  obtain ⟨lo, hi⟩ := hb
  have q0 : 0 ≤ (n : Int) / r.pits := Int.ediv_nonneg (by omega) (by omega)
  have q1 : (n : Int) / r.pits ≤ n := Int.ediv_le_self _ (by omega)
  go_enter Try.func161, Try.ntmps161
  go_wp2
  go_ret
  exact ⟨rfl, below_alloc1 _ _⟩

set_option maxHeartbeats 1000000 in
theorem opposite_c (r : R) (n : Nat) (w : World) (hb : r.Bd) (hn : n ≤ 1000) : Calls Try.prog 162 #[r.val, .int .i64 n] w fun e w' => e = .returned (.int .i64 (2 * r.pits - 1 - n)) ∧ Below w.heap.size w w' := by
  obtain ⟨lo, hi⟩ := hb
  go_enter Try.func162, Try.ntmps162
  go_wp2
  go_ret
  exact ⟨rfl, below_alloc1 _ _⟩

theorem sub_row {w : World} {b o : Nat} {xs : List Int} (h : ∀ (j : Nat) (hj : j < xs.length), w.cell? ⟨b, o + j, none⟩ = some (.int .i64 xs[j])) (lo n : Nat) : Ints w (some ⟨b, o + lo, none⟩) ((xs.drop lo).take n) := by
  intro j v hv
  simp only [List.getElem?_map, List.getElem?_take, List.getElem?_drop] at hv
  split at hv
  · have hj : lo + j < xs.length := by
      rcases Nat.lt_or_ge (lo + j) xs.length with h1 | h1
      · exact h1
      · rw [List.getElem?_eq_none h1] at hv; simp at hv
    rw [List.getElem?_eq_getElem hj] at hv
    simp at hv
    refine ⟨b, o + lo, rfl, ?_⟩
    rw [Nat.add_assoc, h _ hj, hv]
  · simp at hv
theorem sub_sum {xs : List Int} (h : allIn xs = true) (lo n : Nat) : allIn ((xs.drop lo).take n) = true := by
  refine List.all_eq_true.2 fun x hx => ?_
  exact List.all_eq_true.1 h x (List.mem_of_mem_drop (List.mem_of_mem_take hx))
set_option maxHeartbeats 4000000 in
theorem side_c (r : R) (hb : r.Bd) (pn : Nat) (hp : pn ≤ 1) (P : List Int) (hlen : (P.length : Int) = 2 * r.pits) (ha : allIn P = true) (pa : Option Addr) (pc : Nat) (w : World) (hP : Ints w pa P) (hc : P.length ≤ pc) (hcm : pc ≤ maxLen) :
    Calls Try.prog 181 #[r.val, .slice pa P.length pc, .int .i64 pn] w fun e w' => e = .returned (.int .i64 (sideP r P pn)) ∧ Below w.heap.size w w' := by
  obtain ⟨lo, hi⟩ := hb
  obtain ⟨b, o, rfl, hbs, hcs⟩ := Ints.open hP (by omega)
  obtain ⟨k, hk⟩ : ∃ k : Nat, r.pits = k := ⟨r.pits.toNat, by omega⟩
  obtain ⟨u, hu⟩ : ∃ u : Nat, u = pn * k := ⟨_, rfl⟩
  obtain ⟨v, hv⟩ : ∃ v : Nat, v = (pn + 1) * k := ⟨_, rfl⟩
  have e1 : (pn : Int) * r.pits = (u : Int) := by rw [hk, hu]; simp
  have e2 : ((pn : Int) + 1) * r.pits = (v : Int) := by rw [hk, hv]; simp
  have hk1 : v ≤ P.length := by
    have : (pn + 1) * k ≤ 2 * k := Nat.mul_le_mul_right k (by omega)
    omega
  have hk2 : v = u + k := by rw [hv, hu, Nat.add_mul]; simp
  have hk3 : v - u = k := by omega
  have hll : ((P.drop u).take k).length = v - u := by simp; omega
  have hS := sumOf_c (some ⟨b, o + u, none⟩) (pc - u) ((P.drop u).take k) (w.alloc (.cells r.cells 33)) (fun j v hv => by
    obtain ⟨b', o', e, h⟩ := sub_row hcs u k j v hv
    cases e
    exact ⟨b, o + u, rfl, ((below_alloc1 w _).cell (show (Addr.mk b _ none).block < _ from hbs)).trans h⟩) (by omega)
  rw [hll, hk3] at hS
  have hvv : sumO ((P.drop u).take k) = sideP r P pn := by
    unfold sumO sideP
    rw [if_pos (sub_sum ha _ _), e1, Int.toNat_natCast, hk, Int.toNat_natCast]
  have HS := Lib.hid hS
  have HV := Lib.hid hvv
  have hpk : u ≤ 8 := by
    have : pn * k ≤ 1 * k := Nat.mul_le_mul_right k hp
    omega
  have hpv : v ≤ 16 := by omega
  have huv : u ≤ v := by omega
  have hvc : v ≤ pc := by omega
  have hc1 : ¬ pc ≤ u := by omega
  have hc2 : ¬ pc - u = 0 := by omega
  have hc3 : u < pc := by omega
  clear hS hvv hcs hll hu hv hk hk2
  go_enter Try.func181, Try.ntmps181
  go_wp2_with (go_at_call 109; refine HS.out.mono ?_; rintro e w' ⟨rfl, rfl⟩)
  go_ret
  exact ⟨by rw [HV.out]; rfl, below_alloc1 _ _⟩


/-! ### Cap2: captures: the pits that are taken, without the slam rule: the program's function. The contract holds for every argument, under the premises that it states. -/
/-- a round of the two-three rule -/
structure TwSt (w wr : World) (rc pcs : List Value) (r : R) (pn : Nat) (P : List Int) (tgt : List Int) (k : Nat) (acc : List Int) (ta : Option Addr) (tc hi : Nat) : Prop where
  go : acc ++ twoGo r pn P k = tgt
  kl : k ≤ P.length
  al : acc.length + k ≤ 17
  fr : Fr w wr [⟨w.heap.size + 1 + 1, hi, RowP (w.heap.size + 1 + 1) hi ta tc acc⟩, ⟨w.heap.size + 1, w.heap.size + 1 + 1, BoxP (w.heap.size + 1) pcs⟩, ⟨w.heap.size, w.heap.size + 1, BoxP w.heap.size rc⟩]
set_option maxRecDepth 100000 in
set_option maxHeartbeats 8000000 in
theorem taken_c (r : R) (hb : r.Bd) (pn : Nat) (hp : pn ≤ 1) (P S : List Int) (last laps : Int) (pa sa : Option Addr) (pc sc : Nat) (w : World) (hP : Ints w pa P) (hlen : (P.length : Int) = 2 * r.pits) (hpo : PlaceOk r last) (hbd : bdL P 1000000) :
    Calls Try.prog 125 #[r.val, snV P S last laps pa pc sa sc, .int .i64 (pn : Int)] w (IntsRes w (rawP r pn P last)) := by
  obtain ⟨i0, hi, hz0, hz1, hz2⟩ := info_parts infoI
  have hlo := hb.lo
  have hhi := hb.hi
  by_cases hl : last < 0
  · have HR : Hid (rawP r pn P last = []) := by simp [Hid, rawP, hl]
    go_enter Try.func125, Try.ntmps125
    go_wp2
    go_ret
    rw [HR.out]
    exact ⟨_, _, rfl, by simpa [snC, R.cells] using own_none ((w.alloc (.cells r.cells 33)).alloc (.cells (snC P S last laps pa pc sa sc) 148)) w.heap.size (by simp; omega), below_alloc3 _ _ _ _⟩
  obtain ⟨ln, rfl⟩ : ∃ ln : Nat, last = ln := ⟨last.toNat, by omega⟩
  have hln : ln < P.length := by rcases hpo with h | h <;> omega
  obtain ⟨b, o, rfl, hbs, hcs⟩ := Ints.open hP (by omega)
  have HCS := Lib.hid hcs
  have F0 := ((Fr.start w).alloc r.cells 33).alloc (snC P S ln laps (some ⟨b, o, none⟩) pc sa sc) 148
  have O0 := own_none ((w.alloc (.cells r.cells 33)).alloc (.cells (snC P S ln laps (some ⟨b, o, none⟩) pc sa sc) 148)) (w.heap.size + 1 + 1) (by simp)
  have F0' := (F0.step (below_alloc1 _ (.cells #[] 2))).own O0
  simp only [World.size_alloc] at F0'
  have HT : Hid (rawP r pn P ln = rawP r pn P ln) := rfl
  clear hcs F0 O0 hpo
  go_enter Try.func125, Try.ntmps125
  go_wp2_with fail
  obtain ⟨q, hq⟩ : ∃ q, q = (ln : Int) / r.pits := ⟨_, rfl⟩
  have HQ := Lib.hid hq
  have HOW := Lib.hid (fun W => owner_c r ln W hb (by omega))
  rw [← hq] at HOW
  clear hq
  refine (HOW.out _).mono ?_
  clear HOW
  rintro e w1 ⟨rfl, hb1⟩
  have F1 := F0'.step hb1
  obtain ⟨c0, c1, c2, c3, c4, c5, c6, c7, c8⟩ := R.boxc (F1.at 2 rfl)
  have zA : w.heap.size < w1.heap.size := F1.le 2 rfl
  have zB : w.heap.size + 1 < w1.heap.size := F1.le 1 rfl
  obtain ⟨s0, s1, s2, s3⟩ := (⟨F1.at 1 rfl 0 _ rfl, F1.at 1 rfl 1 _ rfl, F1.at 1 rfl 2 _ rfl, F1.at 1 rfl 3 _ rfl⟩ : _ ∧ _ ∧ _ ∧ _)
  clear F0' hb1
  have hcase : r.capture = 1 ∨ r.capture = 2 ∨ r.capture = 3 ∨ (¬ r.capture = 1 ∧ ¬ r.capture = 2 ∧ ¬ r.capture = 3) := by omega
  have HNL : Hid (¬ (ln : Int) < 0) := (by unfold Hid; omega)
  rcases hcase with hk | hk | hk | ⟨hk1, hk2, hk3⟩
  · have hST : Hid (TwSt w w1 r.cells.toList (snC P S ln laps (some ⟨b, o, none⟩) pc sa sc).toList r pn P (rawP r pn P ln) (ln + 1) [] (some ⟨w.heap.size + 1 + 1, 0, none⟩) 0 (w.heap.size + 1 + 1 + 1)) :=
      ⟨by simp [rawP, HNL.out, hk], by omega, by simp; omega, F1⟩
    rw [hk] at c7
    clear F1 c0 c1 c2 c3 c4 c5 c6 c8 hk
    go_wp2
    go_loopw [7, 9] (fun s p wr => ∃ (k : Nat) (pv : Int) (acc : List Int) (ta : Option Addr) (tc hi : Nat), s = .slice ta acc.length tc ∧ p = .int .i64 pv ∧ pv = (k : Int) - 1 ∧ TwSt w wr r.cells.toList (snC P S ln laps (some ⟨b, o, none⟩) pc sa sc).toList r pn P (rawP r pn P ln) k acc ta tc hi) (fun _ p _ => (intOf p + 1).toNat)
    case atStart => exact ⟨ln + 1, ln, [], _, _, _, rfl, rfl, by omega, hST.out⟩
    case round =>
      clear hST c7 s0 s1 s2 s3 zA zB
      obtain ⟨k, pv, acc, ta, tc, hi', rfl, rfl, hpv, hst⟩ := hrel
      have HST := Lib.hid hst
      cases k with
      | zero =>
        have HG := Lib.hid (show rawP r pn P ln = acc from by have := hst.go; simpa [twoGo] using this.symm)
        have F := hst.fr
        obtain rfl : pv = -1 := by omega
        clear hst hpv
        go_wp2
        go_ret
        rw [HG.out]
        exact ⟨ta, tc, rfl, ownsRow_le (F.at 0 rfl).1 (by omega), F.below⟩
      | succ k =>
        obtain rfl : pv = (k : Int) := by omega
        have hkl := hst.kl
        have F := hst.fr
        have hgo := hst.go
        obtain ⟨x, hx⟩ : ∃ x, x = P[k] := ⟨_, rfl⟩
        have hxk : P.getD k 0 = x := by rw [hx]; simp [show k < P.length by omega]
        have hcx : w.cell? ⟨b, o + k, none⟩ = some (.int .i64 x) := by rw [hx]; exact HCS.out k (by omega)
        obtain ⟨qk, hqk⟩ : ∃ qk, qk = (k : Int) / r.pits := ⟨_, rfl⟩
        have HOK := Lib.hid (owner_c r k wr hb (by omega))
        rw [← hqk] at HOK
        rw [twoGo, ← hqk, hxk] at hgo
        obtain ⟨c0, c1, c2, c3, c4, c5, c6, c7, c8⟩ := R.boxc (F.at 2 rfl)
        have zA : w.heap.size < wr.heap.size := F.le 2 rfl
        have hal := hst.al
        clear hst hpv hx hqk hxk
        have hkb : k ≤ 1000 := by omega
        by_cases ho : qk = pn
        · have HG := Lib.hid (show rawP r pn P ln = acc from by rw [if_neg (fun h => h.1 ho)] at hgo; simpa using hgo.symm)
          have hne : (qk != (pn : Int)) = false := by simpa using ho
          clear ho hgo
          go_wp2_with (go_at_call 161; refine HOK.out.mono ?_; rintro e w2 ⟨rfl, hb2⟩)
          go_ret
          have F2 := F.step hb2
          rw [HG.out]
          exact ⟨ta, tc, rfl, ownsRow_le (F2.at 0 rfl).1 (by omega), F2.below⟩
        · have hne : (qk != (pn : Int)) = true := by simpa using ho
          go_wp2_with fail
          refine HOK.out.mono ?_
          rintro e w2 ⟨rfl, hb2⟩
          have F2 := F.step hb2
          clear c0 c1 c2 c3 c4 c5 c6 c7 c8 zA HOK hb2
          obtain ⟨s0, s1, s2, s3⟩ := (⟨F2.at 1 rfl 0 _ rfl, F2.at 1 rfl 1 _ rfl, F2.at 1 rfl 2 _ rfl, F2.at 1 rfl 3 _ rfl⟩ : _ ∧ _ ∧ _ ∧ _)
          have zB : w.heap.size + 1 < w2.heap.size := F2.le 1 rfl
          have hbs2 : b < w2.heap.size := Nat.lt_of_lt_of_le hbs F2.below.size
          have hcx2 : w2.cell? ⟨b, o + k, none⟩ = some (.int .i64 x) := (F2.below.cell (show (Addr.mk b (o + k) none).block < _ from hbs)).trans hcx
          cases hbt : inB x 2 3
          · have HG := Lib.hid (show rawP r pn P ln = acc from by rw [hbt] at hgo; simpa using hgo.symm)
            clear hgo ho
            go_wp2_with (go_at_call 76; refine (between_c _ _ _ _).mono ?_; rintro e w' ⟨rfl, rfl⟩; rw [hbt])
            go_ret
            rw [HG.out]
            exact ⟨ta, tc, rfl, ownsRow_le (F2.at 0 rfl).1 (by omega), F2.below⟩
          · have HG := Lib.hid (show (acc ++ [(k : Int)]) ++ twoGo r pn P k = rawP r pn P ln from by rw [if_pos ⟨ho, hbt⟩] at hgo; simpa using hgo)
            have hown := (F2.at 0 rfl).1
            unfold OwnI at hown
            clear hgo ho
            go_wp2_with (first | (go_at_call 76; refine (between_c _ _ _ _).mono ?_; rintro e w' ⟨rfl, rfl⟩; rw [hbt]) | (at_builtin; refine wpList_append_own2 _ rfl _ _ 24 rfl (w.heap.size + 1 + 1) 2 i0 (.int .i64 0) 1 8 Try.underlying24 hi hz0 hz1 hz2 rfl (by decide) _ _ _ rfl (hown.alloc _) ⟨w2.heap.size, 0, none⟩ 1 1 [.int .i64 (k : Int)] rfl rfl ?c1 ?c2 ?c3 ?c4 ?c5 ?_))
            case c1 => intro j u hu; match j, hu with | 0, hu => (simp at hu; subst hu; simp [Addr.add])
            case c2 => intro u hu; simp at hu; subst hu; rfl
            case c3 => unfold maxLen; omega
            case c4 => omega
            case c5 => (simp; try omega)
            intro ad' c' w4 hown4 hg4 hn4
            have F4 := Lib.hid (Fr.app (ys := [(k : Int)]) F2 (by omega) (by simp) hg4 (by simpa using hown4) rfl)
            clear hown4 hg4 hn4 hown F2 F s0 s1 s2 s3 hcx2
            go_wp2
            go_roundw
            case rel => exact ⟨k, (k : Int) - 1, acc ++ [(k : Int)], ad', c', _, by simp, by go_num, rfl, HG.out, by omega, by simp; omega, F4.out⟩
            case measure => simp [intOf]
  · -- the cross rule
    obtain ⟨x, hx⟩ : ∃ x, x = P[ln] := ⟨_, rfl⟩
    obtain ⟨on, hon⟩ : ∃ on : Nat, (on : Int) = 2 * r.pits - 1 - ln := ⟨(2 * r.pits - 1 - ln).toNat, by omega⟩
    have honl : on < P.length := by omega
    obtain ⟨y, hy⟩ : ∃ y, y = P[on] := ⟨_, rfl⟩
    have hcx : w.cell? ⟨b, o + ln, none⟩ = some (.int .i64 x) := by rw [hx]; exact HCS.out ln hln
    have hcy : w.cell? ⟨b, o + on, none⟩ = some (.int .i64 y) := by rw [hy]; exact HCS.out on honl
    have HR : Hid (rawP r pn P ln = if q = pn ∧ x = 1 ∧ 0 < y then [(ln : Int), (on : Int)] else []) := by
      unfold Hid rawP
      rw [if_neg HNL.out, if_neg (by rw [hk]; decide), if_pos hk, ← HQ.out, ← hon]
      have e1 : P.getD (ln : Int).toNat 0 = x := by rw [hx]; simp [hln]
      have e2 : P.getD (on : Int).toNat 0 = y := by rw [hy]; simp [honl]
      rw [e1, e2]
    have HOP : Hid (∀ W, Calls Try.prog 162 #[r.val, .int .i64 (ln : Int)] W fun e w' => e = .returned (.int .i64 (on : Int)) ∧ Below W.heap.size W w') := fun W => by
      rw [hon]; exact opposite_c r ln W hb (by omega)
    have e12 : (r.capture == 1) = false := by rw [hk]; decide
    have e13 : (r.capture == 2) = true := by rw [hk]; decide
    clear hx hy hon hk
    go_wp2_with fail
    refine (HOP.out _).mono ?_
    rintro e w2 ⟨rfl, hb2⟩
    have F2 := F1.step hb2
    clear c0 c1 c2 c3 c4 c5 c6 c7 c8 s0 s1 s2 s3 zA zB hb2 F1
    obtain ⟨s0, s1, s2, s3⟩ := (⟨F2.at 1 rfl 0 _ rfl, F2.at 1 rfl 1 _ rfl, F2.at 1 rfl 2 _ rfl, F2.at 1 rfl 3 _ rfl⟩ : _ ∧ _ ∧ _ ∧ _)
    have zB : w.heap.size + 1 < w2.heap.size := F2.le 1 rfl
    have hbs2 : b < w2.heap.size := Nat.lt_of_lt_of_le hbs F2.below.size
    have hcx2 : w2.cell? ⟨b, o + ln, none⟩ = some (.int .i64 x) := (F2.below.cell (show (Addr.mk b (o + ln) none).block < _ from hbs)).trans hcx
    have hcy2 : w2.cell? ⟨b, o + on, none⟩ = some (.int .i64 y) := (F2.below.cell (show (Addr.mk b (o + on) none).block < _ from hbs)).trans hcy
    have hown := (F2.at 0 rfl).1
    unfold OwnI at hown
    have HNO : Hid (¬ (q = pn ∧ x = 1 ∧ 0 < y) → rawP r pn P ln = []) := fun h => by rw [HR.out, if_neg h]
    have HOWN := Lib.hid (F2.at 0 rfl).1
    have HF2 := Lib.hid F2.below
    by_cases hq1 : q = pn
    case neg =>
      have t1 : (q == (pn : Int)) = false := by simpa using hq1
      have HE := Lib.hid (HNO.out (fun h => hq1 h.1))
      clear hq1
      go_wp2
      go_ret
      rw [HE.out]
      exact ⟨_, _, rfl, ownsRow_le HOWN.out (by omega), HF2.out⟩
    have t1 : (q == (pn : Int)) = true := by simpa using hq1
    by_cases hx1 : x = 1
    case neg =>
      have t2 : (x == 1) = false := by simpa using hx1
      have HE := Lib.hid (HNO.out (fun h => hx1 h.2.1))
      clear hq1 hx1
      go_wp2
      go_ret
      rw [HE.out]
      exact ⟨_, _, rfl, ownsRow_le HOWN.out (by omega), HF2.out⟩
    have t2 : (x == 1) = true := by simpa using hx1
    by_cases hy1 : 0 < y
    case neg =>
      have HE := Lib.hid (HNO.out (fun h => hy1 h.2.2))
      have t3 : ¬ y > 0 := hy1
      clear hq1 hx1 hy1
      go_wp2
      go_ret
      rw [HE.out]
      exact ⟨_, _, rfl, ownsRow_le HOWN.out (by omega), HF2.out⟩
    have HE := Lib.hid (show rawP r pn P ln = [(ln : Int), (on : Int)] from by rw [HR.out, if_pos ⟨hq1, hx1, hy1⟩])
    have t3 : y > 0 := hy1
    clear hq1 hx1 hy1 HNO HR
    go_wp2_with (at_builtin; refine wpList_append_own2 _ rfl _ _ 24 rfl (w.heap.size + 1 + 1) 2 i0 (.int .i64 0) 1 8 Try.underlying24 hi hz0 hz1 hz2 rfl (by decide) _ _ _ rfl (hown.alloc _) ⟨w2.heap.size, 0, none⟩ 2 2 [.int .i64 (ln : Int), .int .i64 (on : Int)] rfl rfl ?c1 ?c2 ?c3 ?c4 ?c5 ?_)
    case c1 => intro j u hu; match j, hu with | 0, hu => (simp at hu; subst hu; simp [Addr.add]) | 1, hu => (simp at hu; subst hu; simp [Addr.add])
    case c2 => intro u hu; simp at hu; rcases hu with rfl | rfl <;> rfl
    case c3 => (simp only [List.length_nil]; unfold maxLen; omega)
    case c4 => (simp only [List.length_nil]; omega)
    case c5 => (simp; try omega)
    intro ad' c' w4 hown4 hg4 hn4
    have F4 := Lib.hid (Fr.app (ys := [(ln : Int), (on : Int)]) F2 (by omega) (by simp) hg4 (by simpa using hown4) rfl)
    clear hown4 hg4 hn4 hown F2 s0 s1 s2 s3 hcx2 hcy2
    go_wp2
    go_ret
    rw [HE.out]
    exact ⟨_, _, rfl, ownsRow_le (F4.out.at 0 rfl).1 (by omega), F4.out.below⟩
  · -- the even rule
    obtain ⟨x, hx⟩ : ∃ x, x = P[ln] := ⟨_, rfl⟩
    have hx0 : 0 ≤ x ∧ x ≤ 1000000 := by rw [hx]; exact bdL_get hbd hln
    obtain ⟨hx0, hx9⟩ := hx0
    have hcx : w.cell? ⟨b, o + ln, none⟩ = some (.int .i64 x) := by rw [hx]; exact HCS.out ln hln
    have HR : Hid (rawP r pn P ln = if ¬ q = pn ∧ x % 2 = 0 then [(ln : Int)] else []) := by
      unfold Hid rawP
      rw [if_neg HNL.out, if_neg (by rw [hk]; decide), if_neg (by rw [hk]; decide), if_pos hk, ← HQ.out]
      have e1 : P.getD (ln : Int).toNat 0 = x := by rw [hx]; simp [hln]
      rw [e1]
    have e12 : (r.capture == 1) = false := by rw [hk]; decide
    have e13 : (r.capture == 2) = false := by rw [hk]; decide
    have e14 : (r.capture == 3) = true := by rw [hk]; decide
    have hcx2 : w1.cell? ⟨b, o + ln, none⟩ = some (.int .i64 x) := (F1.below.cell (show (Addr.mk b (o + ln) none).block < _ from hbs)).trans hcx
    have hbs2 : b < w1.heap.size := Nat.lt_of_lt_of_le hbs F1.below.size
    have hown := (F1.at 0 rfl).1
    unfold OwnI at hown
    have HNO : Hid (¬ (¬ q = pn ∧ x % 2 = 0) → rawP r pn P ln = []) := fun h => by rw [HR.out, if_neg h]
    have HOWN := Lib.hid (F1.at 0 rfl).1
    have HF1 := Lib.hid F1.below
    clear hx hk
    by_cases hq1 : q = pn
    · have t1 : (q == (pn : Int)) = true := by simpa using hq1
      have HE := Lib.hid (HNO.out (fun h => h.1 hq1))
      clear hq1
      go_wp2
      go_ret
      rw [HE.out]
      exact ⟨_, _, rfl, ownsRow_le HOWN.out (by omega), HF1.out⟩
    have t1 : (q == (pn : Int)) = false := by simpa using hq1
    by_cases hx1 : x % 2 = 0
    case neg =>
      have t2 : (x % 2 == 0) = false := by simpa using hx1
      have HE := Lib.hid (HNO.out (fun h => hx1 h.2))
      clear hq1 hx1
      go_wp2
      go_ret
      rw [HE.out]
      exact ⟨_, _, rfl, ownsRow_le HOWN.out (by omega), HF1.out⟩
    have HE := Lib.hid (show rawP r pn P ln = [(ln : Int)] from by rw [HR.out, if_pos ⟨hq1, hx1⟩])
    have t2 : (x % 2 == 0) = true := by simpa using hx1
    clear hq1 hx1 HNO HR
    go_wp2_with (at_builtin; refine wpList_append_own2 _ rfl _ _ 24 rfl (w.heap.size + 1 + 1) 2 i0 (.int .i64 0) 1 8 Try.underlying24 hi hz0 hz1 hz2 rfl (by decide) _ _ _ rfl (hown.alloc _) ⟨w1.heap.size, 0, none⟩ 1 1 [.int .i64 (ln : Int)] rfl rfl ?c1 ?c2 ?c3 ?c4 ?c5 ?_)
    case c1 => intro j u hu; match j, hu with | 0, hu => (simp at hu; subst hu; simp [Addr.add])
    case c2 => intro u hu; simp at hu; subst hu; rfl
    case c3 => (simp only [List.length_nil]; unfold maxLen; omega)
    case c4 => (simp only [List.length_nil]; omega)
    case c5 => (simp; try omega)
    intro ad' c' w4 hown4 hg4 hn4
    have F4 := Lib.hid (Fr.app (ys := [(ln : Int)]) F1 (by omega) (by simp) hg4 (by simpa using hown4) rfl)
    clear hown4 hg4 hn4 hown F1 s0 s1 s2 s3 hcx2
    go_wp2
    go_ret
    rw [HE.out]
    exact ⟨_, _, rfl, ownsRow_le (F4.out.at 0 rfl).1 (by omega), F4.out.below⟩
  · have HR : Hid (rawP r pn P ln = []) := by simp [Hid, rawP, HNL.out, hk1, hk2, hk3]
    have e1 : (r.capture == 1) = false := by simpa using hk1
    have e2 : (r.capture == 2) = false := by simpa using hk2
    have e3 : (r.capture == 3) = false := by simpa using hk3
    clear hk1 hk2 hk3
    go_wp2
    go_ret
    rw [HR.out]
    exact ⟨_, _, rfl, ownsRow_le (F1.at 0 rfl).1 (by omega), F1.below⟩


end Go.Proofs.Ytbjgigdkbjabaaa
