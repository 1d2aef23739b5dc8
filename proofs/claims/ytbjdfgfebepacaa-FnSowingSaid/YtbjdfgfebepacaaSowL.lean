/- SowL: sums of seeds, and sown seeds that are valid or the same: the functions of the law on sowing. Each contract holds for every argument, under the premises that it states. -/
import Derived.Test.YtbjdfgfebepacaaSowV
import Derived.Test.YtbjdfgfebepacaaDraw1
import Derived.Deep.AppendLies
namespace Go.Proofs.Ytbjdfgfebepacaa
set_option linter.unusedSimpArgs false
set_option linter.unusedVariables false
set_option linter.unnecessarySimpa false
open Go.RowKit Go.ChangeShapes Go.WideShapes Go.ChangeAt Go.Joins

theorem sum_take_next {xs : List Int} {k : Nat} (h : k < xs.length) : (xs.take (k + 1)).sum = (xs.take k).sum + xs[k] := by
  rw [List.take_succ_eq_append_getElem h, List.sum_append]; simp
theorem sum_take_bd {xs : List Int} {m : Int} (h : ∀ x ∈ xs, 0 ≤ x ∧ x ≤ m) (k : Nat) : 0 ≤ (xs.take k).sum ∧ (xs.take k).sum ≤ m * (xs.take k).length := by
  have h1 : ∀ x ∈ xs.take k, 0 ≤ x ∧ x ≤ m := fun x hx => h x (List.mem_of_mem_take hx)
  exact ⟨nn_sum (fun n hn => (h1 n hn).1), sum_le h1⟩
set_option maxHeartbeats 1000000 in
theorem a2Sum_c (a : Option Addr) (c : Nat) (xs : List Int) (w : World) (h : Ints w a xs) (hb : ∀ x ∈ xs, 0 ≤ x ∧ x ≤ 2000) (hm : xs.length ≤ 1000) :
    Calls Try.prog 140 #[.slice a xs.length c] w fun e w' => e = .returned (.int .i64 xs.sum) ∧ w = w' := by
  have HB := Lib.hid hb
  have HH := Lib.hid h
  clear hb h
  go_enter Try.func140, Try.ntmps140
  go_wp2
  go_loop [3, 4] (fun s i => ∃ k : Nat, k ≤ xs.length ∧ i = .int .i64 k ∧ s = .int .i64 (xs.take k).sum) (fun _ i => xs.length - (intOf i).toNat)
  case atStart => exact ⟨0, Nat.zero_le _, rfl, by simp⟩
  case round =>
    obtain ⟨k, hk, rfl, rfl⟩ := hrel
    by_cases hlt : k < xs.length
    · obtain ⟨b1, o1, ha, hb1, hc1⟩ := Ints.at HH.out hlt
      subst ha
      have s1 := sum_take_bd HB.out k
      have hl : (xs.take k).length ≤ 1000 := by simp; omega
      have x1 := HB.out xs[k] (List.getElem_mem hlt)
      have hsb : 0 ≤ (xs.take k).sum ∧ (xs.take k).sum ≤ 2000000 := by omega
      have HS := Lib.hid (sum_take_next hlt)
      clear s1 hl
      go_wp2
      go_round
      case rel => exact ⟨k + 1, by omega, by go_num, by rw [HS.out]⟩
      case measure => simp [intOf]; omega
    · obtain rfl : k = xs.length := by omega
      go_wp2
      go_ret
      exact ⟨by first | rfl | exact ret_int (by rw [List.take_length]), rfl⟩
set_option maxHeartbeats 2000000 in
theorem a2All_c (p : P) (pa sa : Option Addr) (pc sc : Nat) (w : World) (h : PRow w p pa sa) (h1 : ∀ x ∈ p.pits, 0 ≤ x ∧ x ≤ 2000) (h2 : ∀ x ∈ p.stores, 0 ≤ x ∧ x ≤ 2000) (m1 : p.pits.length ≤ 1000) (m2 : p.stores.length ≤ 1000) :
    Calls Try.prog 57 #[p.val pa pc sa sc] w fun e w' => e = .returned (.int .i64 (p.pits.sum + p.stores.sum)) ∧ Below w.heap.size w w' := by
  have B0 := below_alloc1 w (.cells (p.cells pa pc sa sc) 67)
  have C1 := fun n => a2Sum_c pa pc p.pits ((w.alloc (.cells (p.cells pa pc sa sc) 67)).drewN n) (h.pits.below (B0.trans (below_draws _ _ n)) (Nat.le_refl _)) h1 m1
  have C2 := fun n => a2Sum_c sa sc p.stores ((w.alloc (.cells (p.cells pa pc sa sc) 67)).drewN n) (h.stores.below (B0.trans (below_draws _ _ n)) (Nat.le_refl _)) h2 m2
  dsimp only [P.cells] at C1 C2
  have C1 := Lib.hid C1
  have C2 := Lib.hid C2
  have b1 := sum_take_bd h1 p.pits.length
  have b2 := sum_take_bd h2 p.stores.length
  rw [List.take_length] at b1 b2
  have b3 : 0 ≤ p.pits.sum ∧ p.pits.sum ≤ 2000000 := by omega
  have b4 : 0 ≤ p.stores.sum ∧ p.stores.sum ≤ 2000000 := by omega
  have e1 : IntKind.i64.wrap (p.pits.sum + p.stores.sum) = p.pits.sum + p.stores.sum := IntWalk.i64_in _ (by omega)
  clear b1 b2 h1 h2 h
  go_enter Try.func57, Try.ntmps57
  go_wp2_with fail
  go_quiet ((go_at_call 140; first | (with_reducible exact Calls.quiet_of_same (q_same (C1.out _))) | (with_reducible exact Calls.quiet_of_same (q_same (C2.out _)))))
  clear e1
  go_wp2
  go_ret
  exact ⟨rfl, B0.trans (below_draws _ _ _)⟩

set_option maxRecDepth 100000 in
set_option maxHeartbeats 4000000 in
theorem SownSeeds_c (y : Sn) (A : A2) (w : World) (h : PRow w y.pos A.pa A.sa) (h1 : ∀ x ∈ y.pits, 0 ≤ x ∧ x ≤ 2000) (h2 : ∀ x ∈ y.stores, 0 ≤ x ∧ x ≤ 2000) (m1 : y.pits.length ≤ 100) (m2 : y.stores.length ≤ 100) (m3 : 0 < y.stores.length) :
    Calls Try.prog 56 #[y.val A] w fun e w' => e = .returned (.int .i64 (y.pits.sum + y.stores.sum)) ∧ Below w.heap.size w w' := by
  obtain ⟨i0, hi, hz0, hz1, hz2⟩ := info_parts infoI
  have F0 := (Fr.start w).alloc (y.cells A) 72
  obtain ⟨c0, c1, c2, c3⟩ := (⟨F0.drew.at 0 rfl 0 _ rfl, F0.drew.at 0 rfl 1 _ rfl, F0.drew.at 0 rfl 2 _ rfl, F0.drew.at 0 rfl 3 _ rfl⟩ : _ ∧ _ ∧ _ ∧ _)
  have HP := Lib.hid (h.pits.below F0.drew.below (Nat.le_refl _))
  have HSW : Hid (∀ W, Below w.heap.size w W → Ints W A.sa y.stores) := fun W hW => h.stores.below hW (Nat.le_refl _)
  have hall : ∀ x ∈ y.pits ++ y.stores, 0 ≤ x ∧ x ≤ 2000 := fun x hx => by
    rcases List.mem_append.1 hx with hx | hx
    · exact h1 x hx
    · exact h2 x hx
  have HA := Lib.hid hall
  have FD := F0.drew
  clear h h1 h2 hall F0
  obtain ⟨t, ht⟩ : ∃ t, t = y.pits.sum + y.stores.sum := ⟨_, rfl⟩
  rw [← ht]
  have HT := Lib.hid ht
  clear ht
  go_enter Try.func56, Try.ntmps56
  go_upto_region 2 with fail
  obtain ⟨g0, o0, hsa, hs0⟩ : ∃ g o, A.sa = some ⟨g, o, none⟩ ∧ g < w.heap.size := by
    obtain ⟨b, o, e, hc⟩ := HSW.out w (Below.refl _ _) 0 (.int .i64 (y.stores[0]'m3)) (by simp [m3])
    exact ⟨b, o, e, World.block_lt_of_cell? w _ hc⟩
  obtain ⟨pa, pc, sa, sc⟩ := A
  dsimp only at hsa c0 c1 HP HSW
  subst hsa
  have q0 := And.intro c0 c1
  refine heldH (S := fun W => W.cell? ⟨w.heap.size, 0, none⟩ = some (.slice pa y.pits.length pc) ∧ W.cell? ⟨w.heap.size, 1, none⟩ = some (.slice (some ⟨g0, o0, none⟩) y.stores.length sc)) (n := 8) (listed := #[false, false, false, false, false, false, false, false]) (by kernel_rfl) (by rfl) (by rfl) ?_ (fun hHeld => ?_)
  (focus ((try dsimp only); (first | done | ((first | (with_reducible exact q2) | (with_reducible exact q1) | exact q0); done))))
  (refine takeH (i := 0) (v := ?_) (by decide +kernel) (by decide +kernel) (by kernel_rfl) (by rfl) (by exact fun _ _ _ h => h) (by rfl) ?_ (by assumption) ?_); rotate_left; (focus (intro w hSw; (try dsimp only at hSw); go_simp; (try with_reducible rfl); done)); (try simp only [Act.put, List.setIfInBounds_toArray, List.set_cons_zero, List.set_cons_succ])
  (refine takeH (i := 1) (v := ?_) (by decide +kernel) (by decide +kernel) (by kernel_rfl) (by rfl) (by exact fun _ _ _ h => h) (by rfl) ?_ (by assumption) ?_); rotate_left; (focus (intro w hSw; (try dsimp only at hSw); go_simp; (try with_reducible rfl); done)); (try simp only [Act.put, List.setIfInBounds_toArray, List.set_cons_zero, List.set_cons_succ])
  (refine takeH (i := 3) (v := ?_) (by decide +kernel) (by decide +kernel) (by kernel_rfl) (by rfl) (by exact fun _ _ _ h => h) (by rfl) ?_ (by assumption) ?_); rotate_left; (focus (intro w hSw; (try dsimp only at hSw); go_simp; (try with_reducible rfl); done)); (try simp only [Act.put, List.setIfInBounds_toArray, List.set_cons_zero, List.set_cons_succ])
  (refine takeH (i := 4) (v := ?_) (by decide +kernel) (by decide +kernel) (by kernel_rfl) (by rfl) (by exact fun _ _ _ h => h) (by rfl) ?_ (by assumption) ?_); rotate_left; (focus (intro w hSw; (try dsimp only at hSw); go_simp; (try with_reducible rfl); done)); (try simp only [Act.put, List.setIfInBounds_toArray, List.set_cons_zero, List.set_cons_succ])
  (refine takeH (i := 7) (v := ?_) (by decide +kernel) (by decide +kernel) (by kernel_rfl) (by rfl) (by exact fun _ _ _ h => h) (by rfl) ?_ (by assumption) ?_); rotate_left; (focus (intro w hSw; (try dsimp only at hSw); go_simp; (try with_reducible rfl); done)); (try simp only [Act.put, List.setIfInBounds_toArray, List.set_cons_zero, List.set_cons_succ])
  refine nextH (i := 2) (by decide +kernel) (by rfl) (by rfl) (fun K hK => ?_)
  (go_simp; go_at_call 139; (refine (copyNumbers_c pa pc y.pits _ HP.out (by omega)).mono ?_); (rintro e w1 ⟨a1, k1, rfl, ho1, hb1⟩); (have F1 := FD.step hb1); (have hb1' := hb1.size); (simp only [World.size_drew, World.size_alloc] at ho1); (have HO1 := Lib.hid ho1); (have q1 := And.intro (F1.at 0 rfl 0 _ rfl) (F1.at 0 rfl 1 _ rfl)); clear ho1 hb1)
  refine hK.out _ _ ?_ (fun hHeld' => ?_)
  (focus ((try dsimp only); (first | done | ((first | (with_reducible exact q2) | (with_reducible exact q1) | exact q0); done))))
  clear hK K hHeld
  have hHeld := hHeld'
  clear hHeld'
  (try simp only [Act.put, List.setIfInBounds_toArray, List.set_cons_zero, List.set_cons_succ])
  refine nextH (i := 5) (by decide +kernel) (by rfl) (by rfl) (fun K hK => ?_)
  (refine wp_append_lies _ _ _ 51 rfl (w.heap.size + 1) 2 i0 (.int .i64 0) 1 8 Try.underlying51 hi hz0 hz1 hz2 rfl (by decide) _ _ _ rfl HO1.out ⟨g0, o0, none⟩ y.stores.length sc (y.stores.map (Value.int .i64)) rfl (by simp) (fun j u hu => by obtain ⟨b, o, e, hc⟩ := HSW.out _ F1.below j u hu; cases e; rw [Go.WideShapes.add_plain]; exact hc) (by intro u hu; simp at hu; obtain ⟨x, _, rfl⟩ := hu; rfl) m3 (by unfold maxLen; omega) (by omega) (by have := F1.le 0 rfl; omega) _ rfl ?_; (intro g cap w2 ho2 hg2 hn2 hl2); (have q2 : w2.cell? ⟨w.heap.size, 0, none⟩ = some (.slice pa y.pits.length pc) ∧ w2.cell? ⟨w.heap.size, 1, none⟩ = some (.slice (some ⟨g0, o0, none⟩) y.stores.length sc) := ⟨cell_stab q1.1 (hg2.block _ (F1.le 0 rfl) (fun e => by have := (HO1.out.lt _ e.symm).1; omega)), cell_stab q1.2 (hg2.block _ (F1.le 0 rfl) (fun e => by have := (HO1.out.lt _ e.symm).1; omega))⟩); (have HB2 : Hid (Below w.heap.size w w2) := below_grown F1.below hg2 (fun k hk => by have := (HO1.out.lt k hk).1; omega)); (have HO2 := Lib.hid ho2); clear ho2 hg2 hn2)
  refine hK.out _ _ ?_ (fun hHeld' => ?_)
  (focus ((try dsimp only); (first | done | ((first | (with_reducible exact q2) | (with_reducible exact q1) | exact q0); done))))
  clear hK K hHeld
  have hHeld := hHeld'
  clear hHeld'
  (try simp only [Act.put, List.setIfInBounds_toArray, List.set_cons_zero, List.set_cons_succ])
  (refine takeH (i := 6) (v := ?_) (by decide +kernel) (by decide +kernel) (by kernel_rfl) (by rfl) (by exact fun _ _ _ h => h) (by rfl) ?_ (by assumption) ?_); rotate_left; (focus (intro w hSw; (try dsimp only at hSw); go_simp; (try with_reducible rfl); done)); (try simp only [Act.put, List.setIfInBounds_toArray, List.set_cons_zero, List.set_cons_succ])
  refine wpAnyH_done (by decide +kernel) ?_ _
  clear hHeld q0 q1 q2 FD F1 HP HSW HO1 c0 c1 c2 c3
  have hxl : (y.pits ++ y.stores).length = y.pits.length + y.stores.length := List.length_append
  have hrow : Ints w2 (some ⟨g, 0, none⟩) (y.pits ++ y.stores) := by
    unfold Ints
    rw [List.map_append]
    exact own_row HO2.out
  have hsum : t = (y.pits ++ y.stores).sum := by rw [HT.out, List.sum_append]
  have hx2 : (y.pits ++ y.stores).length ≤ 1000 := by omega
  have HA2 := HA
  clear HO2 HA HT
  rw [← hxl]
  generalize y.pits ++ y.stores = xs at hrow HA2 hx2 hsum hxl ⊢
  have HXL := Lib.hid hxl
  clear hxl
  have HH := Lib.hid hrow
  have HT := Lib.hid hsum
  clear hrow hsum
  go_wp2
  go_loop [3, 13] (fun s i => ∃ k : Nat, k ≤ xs.length ∧ i = .int .i64 k ∧ s = .int .i64 (xs.take k).sum) (fun _ i => xs.length - (intOf i).toNat)
  case atStart => exact ⟨0, Nat.zero_le _, rfl, by simp⟩
  case round =>
    obtain ⟨k, hk, rfl, rfl⟩ := hrel
    by_cases hlt : k < xs.length
    · obtain ⟨b1, o1, ha, hb1, hc1⟩ := Ints.at HH.out hlt
      cases ha
      rw [Nat.zero_add] at hc1
      have s1 := sum_take_bd HA2.out k
      have hl : (xs.take k).length ≤ 1000 := by simp; omega
      have x1 := HA2.out xs[k] (List.getElem_mem hlt)
      have hsb : 0 ≤ (xs.take k).sum ∧ (xs.take k).sum ≤ 2000000 := by omega
      have HS := Lib.hid (sum_take_next hlt)
      have hki : (k : Int) < (y.pits.length : Int) + (y.stores.length : Int) := by have := HXL.out; omega
      clear s1 hl
      go_wp2
      go_round
      case rel => exact ⟨k + 1, by omega, by go_num, by rw [HS.out]⟩
      case measure => simp [intOf]; omega
    · obtain rfl : k = xs.length := by omega
      have hki : ¬ ((xs.length : Nat) : Int) < (y.pits.length : Int) + (y.stores.length : Int) := by have := HXL.out; omega
      go_wp2
      go_ret
      exact ⟨ret_int (by rw [HT.out]), HB2.out⟩

set_option maxRecDepth 100000 in
set_option maxHeartbeats 4000000 in
theorem sSameSown_c (x : Sn) (A B : A2) (w : World) (hx : PRow w x.pos A.pa A.sa) (hy : PRow w x.pos B.pa B.sa) (m1 : x.pits.length ≤ maxLen) (m2 : x.stores.length ≤ maxLen) :
    Calls Try.prog 60 #[x.val A, x.val B] w fun e w' => e = .returned (.bool true) ∧ Below w.heap.size w w' := by
  have F0 := ((Fr.start w).alloc (x.cells A) 72).alloc (x.cells B) 72
  have HC : Calls Try.prog 142 #[.pointer (some ⟨w.heap.size, 0, none⟩), .pointer (some ⟨w.heap.size + 1, 0, none⟩)] ((w.alloc (.cells (x.cells A) 72)).alloc (.cells (x.cells B) 72)) fun e w' => e = .returned (.bool true) ∧ ∃ m, w' = ((w.alloc (.cells (x.cells A) 72)).alloc (.cells (x.cells B) 72)).drewN m := by
    obtain ⟨a0, a1, a2, a3⟩ := (⟨F0.at 1 rfl 0 _ rfl, F0.at 1 rfl 1 _ rfl, F0.at 1 rfl 2 _ rfl, F0.at 1 rfl 3 _ rfl⟩ : _ ∧ _ ∧ _ ∧ _)
    obtain ⟨b0, b1, b2, b3⟩ := (⟨F0.at 0 rfl 0 _ rfl, F0.at 0 rfl 1 _ rfl, F0.at 0 rfl 2 _ rfl, F0.at 0 rfl 3 _ rfl⟩ : _ ∧ _ ∧ _ ∧ _)
    simp only [World.size_alloc] at b0 b1 b2 b3
    have R1 := hx.below F0.below (Nat.le_refl _)
    have R2 := hy.below F0.below (Nat.le_refl _)
    generalize (w.alloc (.cells (x.cells A) 72)).alloc (.cells (x.cells B) 72) = W at *
    have Q1 : ∀ n, Calls Try.prog 112 #[.slice A.pa x.pits.length A.pc, .slice B.pa x.pits.length B.pc] (W.drewN n) fun e w' => e = .returned (.bool true) ∧ ∃ m, w' = (W.drewN n).drewN m := fun n => by
      have := l00Same_c A.pa B.pa A.pc B.pc x.pits x.pits (W.drewN n) R1.pits R2.pits m1 m1
      rw [decide_eq_true rfl] at this; exact this
    have Q2 : ∀ n, Calls Try.prog 112 #[.slice A.sa x.stores.length A.sc, .slice B.sa x.stores.length B.sc] (W.drewN n) fun e w' => e = .returned (.bool true) ∧ ∃ m, w' = (W.drewN n).drewN m := fun n => by
      have := l00Same_c A.sa B.sa A.sc B.sc x.stores x.stores (W.drewN n) R1.stores R2.stores m2 m2
      rw [decide_eq_true rfl] at this; exact this
    have Q1 := Lib.hid Q1
    have Q2 := Lib.hid Q2
    clear R1 R2 F0 hx hy
    go_enter Try.func142, Try.ntmps142
    go_wp2
    go_quiet ((go_at_call 112; (first | (with_reducible exact Calls.quiet_of (Q1.out _)) | (with_reducible exact Calls.quiet_of (Q2.out _)))))
    go_wp2
    go_ret
    exact ⟨rfl, _, rfl⟩
  have HC := Lib.hid HC
  clear hx hy
  go_enter Try.func60, Try.ntmps60
  go_wp2_with fail
  refine HC.out.mono ?_
  rintro e w1 ⟨rfl, n, rfl⟩
  go_wp2
  go_ret
  exact ⟨rfl, F0.below.trans (below_draws _ _ n)⟩

set_option maxRecDepth 100000 in
set_option maxHeartbeats 8000000 in
theorem l06Ok_c (rb sb : Nat) (r : R) (y : Sn) (A : A2) (pn : Nat) (w : World) (hr : R.At w rb 0 r) (s0 : w.cell? ⟨sb, 0, none⟩ = some (.slice A.pa y.pits.length A.pc)) (s1 : w.cell? ⟨sb, 1, none⟩ = some (.slice A.sa y.stores.length A.sc)) (s2 : w.cell? ⟨sb, 2, none⟩ = some (.int .i64 y.last)) (s3 : w.cell? ⟨sb, 3, none⟩ = some (.int .i64 y.laps)) (h : PRow w y.pos A.pa A.sa) (hok : (P.mk y.pits y.stores 0).ok r = true) (hlap : 1 ≤ y.laps ∧ y.laps ≤ 100) (hpn : pn ≤ 1)
    (hst : y.last = -1 → r.stores = true ∧ 0 < y.stores.getD pn 0) (hpit : y.last ≠ -1 → 0 ≤ y.last ∧ y.last < 2 * r.pits ∧ 0 < y.pits.getD y.last.toNat 0) :
    Calls Try.prog 141 #[.pointer (some ⟨rb, 0, none⟩), .pointer (some ⟨sb, 0, none⟩), .int .i64 (pn : Int)] w fun e w' => e = .returned (.bool true) ∧ Below w.heap.size w w' := by
  obtain ⟨⟨hb2, hb8⟩, _, t0, hBr, _, _⟩ := P.ok_parts hok
  have lp := hBr.lp
  have ls := hBr.ls
  dsimp only at lp ls
  have hrb : rb < w.heap.size := World.block_lt_of_cell? w _ hr.c0
  have hsb : sb < w.heap.size := World.block_lt_of_cell? w _ s0
  clear hBr
  have F0 := ((Fr.start w).alloc #[.slice A.pa y.pits.length A.pc, .slice A.sa y.stores.length A.sc, .int .i64 0] 67).drew
  have HR := Lib.hid (hr.below F0.below hrb)
  have HPR : Hid (∀ W, Below w.heap.size w W → PRow W ⟨y.pits, y.stores, 0⟩ A.pa A.sa) := fun W hW => ⟨h.pits.below hW (Nat.le_refl _), h.stores.below hW (Nat.le_refl _)⟩
  have HL := l04Ok_c rb 0 w.heap.size 0 r ⟨y.pits, y.stores, 0⟩ A.pa A.sa A.pc A.sc _ HR.out ⟨F0.at 0 rfl 0 _ rfl, F0.at 0 rfl 1 _ rfl, F0.at 0 rfl 2 _ rfl⟩ (HPR.out _ F0.below) (by dsimp only; omega) (by dsimp only; omega)
  rw [hok] at HL
  have HL := Lib.hid HL
  have e1 : inB (pn : Int) 0 1 = true := inB_iff.2 (by omega)
  have e2 : inB y.laps 1 100 = true := inB_iff.2 hlap
  have E1 := Lib.hid e1
  have E2 := Lib.hid e2
  have HST := Lib.hid hst
  have HPT := Lib.hid hpit
  have q0 := And.intro s0 s1
  have HS : Hid (∀ W, Below w.heap.size w W → W.cell? ⟨sb, 0, none⟩ = some (.slice A.pa y.pits.length A.pc) ∧ W.cell? ⟨sb, 1, none⟩ = some (.slice A.sa y.stores.length A.sc) ∧ W.cell? ⟨sb, 2, none⟩ = some (.int .i64 y.last) ∧ W.cell? ⟨sb, 3, none⟩ = some (.int .i64 y.laps)) := fun W hW => ⟨((bcell hW).1 _ _ hsb).trans s0, ((bcell hW).1 _ _ hsb).trans s1, ((bcell hW).1 _ _ hsb).trans s2, ((bcell hW).1 _ _ hsb).trans s3⟩
  have HRR : Hid (∀ W, Below w.heap.size w W → R.At W rb 0 r) := fun W hW => hr.below hW hrb
  have LP := Lib.hid lp
  have LS := Lib.hid ls
  clear hlap e1 e2 hst hpit h hok hr s2 s3 lp ls
  have hne : ¬ sb = w.heap.size := by omega
  go_enter Try.func141, Try.ntmps141
  go_upto_region 1 with fail
  refine heldH (S := fun W => W.cell? ⟨sb, 0, none⟩ = some (.slice A.pa y.pits.length A.pc) ∧ W.cell? ⟨sb, 1, none⟩ = some (.slice A.sa y.stores.length A.sc)) (n := 11) (listed := #[false, false, false, false, false, false, false, false, false, false, false]) (by kernel_rfl) (by rfl) (by rfl) ?_ (fun hHeld => ?_)
  (focus ((try dsimp only); (first | done | ((first | exact ⟨(HS.out _ ((Below.refl _ _).drew.alloc (by simp) _)).1, (HS.out _ ((Below.refl _ _).drew.alloc (by simp) _)).2.1⟩ | exact q0); done))))
  (refine takeH (i := 0) (v := ?_) (by decide +kernel) (by decide +kernel) (by kernel_rfl) (by rfl) (by exact fun _ _ _ h => h) (by rfl) ?_ (by assumption) ?_); rotate_left; (focus (intro w hSw; (try dsimp only at hSw); go_simp; (try with_reducible rfl); done)); (try simp only [Act.put, List.setIfInBounds_toArray, List.set_cons_zero, List.set_cons_succ])
  (refine takeH (i := 1) (v := ?_) (by decide +kernel) (by decide +kernel) (by kernel_rfl) (by rfl) (by exact fun _ _ _ h => h) (by rfl) ?_ (by assumption) ?_); rotate_left; (focus (intro w hSw; (try dsimp only at hSw); go_simp; (try with_reducible rfl); done)); (try simp only [Act.put, List.setIfInBounds_toArray, List.set_cons_zero, List.set_cons_succ])
  (refine takeH (i := 2) (v := ?_) (by decide +kernel) (by decide +kernel) (by kernel_rfl) (by rfl) (by exact fun _ _ _ h => h) (by rfl) ?_ (by assumption) ?_); rotate_left; (focus (intro w hSw; (try dsimp only at hSw); go_simp; (try with_reducible rfl); done)); (try simp only [Act.put, List.setIfInBounds_toArray, List.set_cons_zero, List.set_cons_succ])
  (refine takeH (i := 3) (v := ?_) (by decide +kernel) (by decide +kernel) (by kernel_rfl) (by rfl) (by exact fun _ _ _ h => h) (by rfl) ?_ (by assumption) ?_); rotate_left; (focus (intro w hSw; (try dsimp only at hSw); go_simp; (try with_reducible rfl); done)); (try simp only [Act.put, List.setIfInBounds_toArray, List.set_cons_zero, List.set_cons_succ])
  (refine takeH (i := 4) (v := ?_) (by decide +kernel) (by decide +kernel) (by kernel_rfl) (by rfl) (by exact fun _ _ _ h => h) (by rfl) ?_ (by assumption) ?_); rotate_left; (focus (intro w hSw; (try dsimp only at hSw); go_simp; (try with_reducible rfl); done)); (try simp only [Act.put, List.setIfInBounds_toArray, List.set_cons_zero, List.set_cons_succ])
  (refine takeH (i := 5) (v := ?_) (by decide +kernel) (by decide +kernel) (by kernel_rfl) (by rfl) (by exact fun _ _ _ h => h) (by rfl) ?_ (by assumption) ?_); rotate_left; (focus (intro w hSw; (try dsimp only at hSw); go_simp; (try with_reducible rfl); done)); (try simp only [Act.put, List.setIfInBounds_toArray, List.set_cons_zero, List.set_cons_succ])
  (refine takeH (i := 6) (v := ?_) (by decide +kernel) (by decide +kernel) (by kernel_rfl) (by rfl) (by exact fun _ _ _ h => h) (by rfl) ?_ (by assumption) ?_); rotate_left; (focus (intro w hSw; (try dsimp only at hSw); go_simp; (try with_reducible rfl); done)); (try simp only [Act.put, List.setIfInBounds_toArray, List.set_cons_zero, List.set_cons_succ])
  (refine takeH (i := 7) (v := ?_) (by decide +kernel) (by decide +kernel) (by kernel_rfl) (by rfl) (by exact fun _ _ _ h => h) (by rfl) ?_ (by assumption) ?_); rotate_left; (focus (intro w hSw; (try dsimp only at hSw); go_simp; (try with_reducible rfl); done)); (try simp only [Act.put, List.setIfInBounds_toArray, List.set_cons_zero, List.set_cons_succ])
  (refine takeH (i := 8) (v := ?_) (by decide +kernel) (by decide +kernel) (by kernel_rfl) (by rfl) (by exact fun _ _ _ h => h) (by rfl) ?_ (by assumption) ?_); rotate_left; (focus (intro w hSw; (try dsimp only at hSw); go_simp; (try with_reducible rfl); done)); (try simp only [Act.put, List.setIfInBounds_toArray, List.set_cons_zero, List.set_cons_succ])
  refine nextH (i := 9) (by decide +kernel) (by rfl) (by rfl) (fun K hK => ?_)
  go_simp
  (skip)
  refine hK.out _ _ ?_ (fun hHeld' => ?_)
  (focus ((try dsimp only); (first | done | ((first | exact ⟨(HS.out _ ((Below.refl _ _).drew.alloc (by simp) _)).1, (HS.out _ ((Below.refl _ _).drew.alloc (by simp) _)).2.1⟩ | exact q0); done))))
  clear hK K hHeld
  have hHeld := hHeld'
  clear hHeld'
  (try simp only [Act.put, List.setIfInBounds_toArray, List.set_cons_zero, List.set_cons_succ])
  refine nextH (i := 10) (by decide +kernel) (by rfl) (by rfl) (fun K hK => ?_)
  go_simp
  (skip)
  refine hK.out _ _ ?_ (fun hHeld' => ?_)
  (focus ((try dsimp only); (first | done | ((first | exact ⟨(HS.out _ ((Below.refl _ _).drew.alloc (by simp) _)).1, (HS.out _ ((Below.refl _ _).drew.alloc (by simp) _)).2.1⟩ | exact q0); done))))
  clear hK K hHeld
  have hHeld := hHeld'
  clear hHeld'
  (try simp only [Act.put, List.setIfInBounds_toArray, List.set_cons_zero, List.set_cons_succ])
  refine wpAnyH_done (by decide +kernel) ?_ _
  clear hHeld q0
  obtain ⟨h0, h1, h2, h3⟩ := HS.out _ F0.below
  go_wp2_with fail
  refine HL.out.mono ?_
  rintro e w2 ⟨rfl, n2, hw2⟩
  have F2 := F0.drawn n2
  rw [← hw2] at F2
  clear hw2 F0 HL h0 h1 h2 h3
  obtain ⟨h0, h1, h2, h3⟩ := HS.out _ F2.below
  obtain ⟨c0, c1, c2, c3, c4, c5, c6, c7, c8⟩ := HRR.out _ F2.below
  have HP2 := HPR.out _ F2.below
  go_wp2_with fail
  refine (l00In_c _ _ _ _).mono ?_
  rintro e w3 ⟨rfl, rfl⟩
  rw [E1.out]
  go_wp2_with fail
  refine (l00In_c _ _ _ _).mono ?_
  rintro e w3 ⟨rfl, rfl⟩
  rw [E2.out]
  obtain ⟨yp, ys, yl, ym⟩ := y
  have lp := LP.out
  have ls := LS.out
  dsimp only at h0 h1 h2 h3 HST HPT lp ls HP2
  clear LP LS
  by_cases hl : yl = -1
  · obtain ⟨k1, k2⟩ := HST.out hl
    subst hl
    rw [k1] at c2
    obtain ⟨u, v, huv⟩ : ∃ u v, ys = [u, v] := by
      match ys, ls with
      | [u, v], _ => exact ⟨u, v, rfl⟩
    subst huv
    obtain ⟨bs, os, hsa, hbs, hcs⟩ := Row.at HP2.stores (by simp)
    have z0 : w2.cell? ⟨bs, os, none⟩ = some (.int .i64 u) := hcs 0 _ rfl
    have z1 : w2.cell? ⟨bs, os + 1, none⟩ = some (.int .i64 v) := hcs 1 _ rfl
    clear hcs
    have hp01 : pn = 0 ∨ pn = 1 := by omega
    rw [hsa] at h1
    clear HST HPT k1 hsa HP2 HPR lp ls
    rcases hp01 with rfl | rfl
    · have k3 : decide (0 < u) = true := by simpa using k2
      clear k2
      go_wp2
      go_ret
      exact ⟨rfl, F2.below⟩
    · have k3 : decide (0 < v) = true := by simpa using k2
      clear k2
      go_wp2
      go_ret
      exact ⟨rfl, F2.below⟩
  · obtain ⟨k1, k2, k3⟩ := HPT.out hl
    obtain ⟨m, rfl⟩ : ∃ m : Nat, yl = m := ⟨yl.toNat, by omega⟩
    have hm : m < yp.length := by omega
    obtain ⟨bp, op, hpa, hbp, z0⟩ := Ints.at HP2.pits hm
    rw [hpa] at h0
    have k4 : decide (0 < yp[m]) = true := by
      rw [Int.toNat_natCast, List.getD_eq_getElem?_getD] at k3
      simpa [hm] using k3
    have k5 : ((m : Int) == -1) = false := by simp
    have k6 : inB (m : Int) 0 (2 * r.pits - 1) = true := inB_iff.2 (by omega)
    have w1 : IntKind.i64.wrap (2 * r.pits) = 2 * r.pits := IntWalk.i64_in _ (by omega)
    have w2' : IntKind.i64.wrap (2 * r.pits - 1) = 2 * r.pits - 1 := IntWalk.i64_in _ (by omega)
    have HQ : Hid (∀ W : World, Calls Try.prog 104 #[.int .i64 (m : Int), .int .i64 0, .int .i64 (2 * r.pits - 1)] W fun e w' => e = .returned (.bool true) ∧ W = w') := fun W => by
      have := l00In_c (m : Int) 0 (2 * r.pits - 1) W
      rw [k6] at this; exact this
    clear HST HPT k1 k2 k3 hpa HP2 HPR hl k6 lp ls
    go_wp2_with fail
    go_quiet ((go_at_call 104; (with_reducible exact Calls.quiet_of_same (q_same (HQ.out _)))))
    clear w1 w2'
    go_wp2
    go_ret
    exact ⟨rfl, F2.below.trans (below_draws _ _ _)⟩
set_option maxRecDepth 100000 in
set_option maxHeartbeats 4000000 in
theorem sValidSown_c (r : R) (y : Sn) (A : A2) (pn : Nat) (w : World) (h : PRow w y.pos A.pa A.sa) (hok : (P.mk y.pits y.stores 0).ok r = true) (hlap : 1 ≤ y.laps ∧ y.laps ≤ 100) (hpn : pn ≤ 1)
    (hst : y.last = -1 → r.stores = true ∧ 0 < y.stores.getD pn 0) (hpit : y.last ≠ -1 → 0 ≤ y.last ∧ y.last < 2 * r.pits ∧ 0 < y.pits.getD y.last.toNat 0) :
    Calls Try.prog 59 #[r.val, y.val A, .int .i64 (pn : Int)] w fun e w' => e = .returned (.bool true) ∧ Below w.heap.size w w' := by
  have F0 := ((Fr.start w).alloc r.cells 25).alloc (y.cells A) 72
  have HC := Lib.hid (l06Ok_c w.heap.size (w.heap.size + 1) r y A pn _ (R.boxc (F0.at 1 rfl)) (by have := F0.at 0 rfl 0 _ rfl; simpa using this) (by have := F0.at 0 rfl 1 _ rfl; simpa using this) (by have := F0.at 0 rfl 2 _ rfl; simpa using this) (by have := F0.at 0 rfl 3 _ rfl; simpa using this) (h.below F0.below (Nat.le_refl _)) hok hlap hpn hst hpit)
  clear h hok hlap hst hpit
  go_enter Try.func59, Try.ntmps59
  go_wp2_with fail
  refine HC.out.mono ?_
  rintro e w1 ⟨rfl, hb1⟩
  go_wp2
  go_ret
  exact ⟨rfl, below_next F0.below hb1⟩

end Go.Proofs.Ytbjdfgfebepacaa
