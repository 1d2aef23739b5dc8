/- Draw2: rules drawn from bytes; the laws' own small functions. Each contract holds for every argument, under the premises that it states. -/
import Derived.Test.YteabheocbkcmnaaDraw1
namespace Go.Proofs.Yteabheocbkcmnaa
set_option linter.unusedSimpArgs false
set_option linter.unusedVariables false
set_option linter.unnecessarySimpa false
open Go.RowKit Go.ChangeShapes Go.WideShapes Go.ChangeAt Go.Joins

set_option maxRecDepth 100000 in
set_option maxHeartbeats 4000000 in
theorem A2Rules_c (ca : Option Addr) (cc : Nat) (bs : List Int) (w : World) (h : ByteP w.heap.size ca bs w) :
    Calls Try.prog 55 #[.slice ca bs.length cc] w fun e w' => ∃ r : R, e = .returned r.val ∧ r.drawn ∧ Below w.heap.size w w' := by
  have B0 := below_alloc1 w (.cells #[.int .i64 0, .int .i64 0, .bool false, .bool false, .bool false, .bool false, .bool false, .int .i64 0, .int .i64 0] 24)
  have h1 := h.keep (fun k hk => B0.block k hk)
  go_enter Try.func55, Try.ntmps55
  go_wp2_with fail
  refine (l00From_c w.heap.size ca cc bs _ h1 (by simp)).mono ?_
  rintro e w1 ⟨rfl, hs1, hb1⟩
  have B1 := B0.trans (hb1.mono (by simp))
  obtain ⟨hc1, hf1⟩ := bcell hb1
  have z1 := hs1.lt
  simp only [World.size_alloc] at z1 hs1
  clear hb1
  go_wp2_with fail
  (try simp only [World.size_alloc])
  refine (l02Draw_c w.heap.size (w.heap.size + 1) 0 _ hs1 (by omega) (by omega) z1.1).mono ?_
  rintro e w2 ⟨r, rfl, hd, hs2, hc2⟩
  have B2 := hc2.below B1 (by omega)
  obtain ⟨hc2', hf2'⟩ := cell_chg (g := w.heap.size) hc2 (by omega) (by omega)
  have z2 : w.heap.size < w2.heap.size := by have := hc2.size; omega
  have z3 : w.heap.size < w1.heap.size := by omega
  have HD := Lib.hid hd
  clear hs1 hs2 hc2 hd
  go_wp2_with fail
  refine bodyPost_ret (v := r.val) (by simp [results, Try.results55, go_sem, hc1, hf1, hc2', hf2', z2, z3]) rfl ⟨r, rfl, HD.out, ?_⟩
  repeat (first | (with_reducible exact B2) | ((with_reducible refine Below.setCell ?_ ?_ _); rotate_left; (simp <;> omega)))

set_option maxHeartbeats 2000000 in
theorem a2At_c (base : Nat) (ca : Option Addr) (cc : Nat) (bs : List Int) (k n : Int) (w : World) (h : ByteP base ca bs w) (hk : 0 ≤ k) (hk' : k ≤ 9223372036854775807) (hn : 1 ≤ n) (hn' : n ≤ 9223372036854775807) :
    Calls Try.prog 57 #[.slice ca bs.length cc, .int .i64 k, .int .i64 n] w fun e w' => ∃ v : Int, e = .returned (.int .i64 v) ∧ 0 ≤ v ∧ v < n ∧ w = w' := by
  have hlen := h.len
  by_cases hlt : k < bs.length
  · obtain ⟨j, rfl⟩ : ∃ j : Nat, k = j := ⟨k.toNat, by omega⟩
    have hj : j < bs.length := by omega
    obtain ⟨cb, co, rfl, hcl⟩ := h.row j (.int .u8 bs[j]) (by simp [hj])
    obtain ⟨r0, r1⟩ := h.rng bs[j] (List.getElem_mem hj)
    have hw : IntKind.i64.wrap bs[j] = bs[j] := IntWalk.i64_in _ (by omega)
    clear h
    have e1 : (n < 1) = False := by simp; omega
    go_enter Try.func57, Try.ntmps57
    go_wp2
    go_ret
    exact ⟨_, rfl, Int.emod_nonneg _ (by omega), Int.emod_lt_of_pos _ (by omega), rfl⟩
  · clear h
    go_enter Try.func57, Try.ntmps57
    go_wp2
    go_ret
    exact ⟨0, rfl, by omega, by omega, rfl⟩

set_option maxHeartbeats 2000000 in
theorem a2Long_c (ca da : Option Addr) (n m cc dc : Nat) (w : World) (hn : n ≤ maxLen) (hm : m ≤ maxLen) :
    Calls Try.prog 54 #[.slice ca n cc, .slice da m dc] w fun e w' => e = .returned (.bool (decide (3000 < (n : Int)) || decide (3000 < (m : Int)))) ∧ w = w' := by
  unfold maxLen at hn hm
  by_cases h1 : 3000 < (n : Int)
  · go_enter Try.func54, Try.ntmps54
    go_wp2
    go_ret
    exact ⟨by first | rfl | (rw [decide_eq_true h1]; rfl), rfl⟩
  · by_cases h2 : 3000 < (m : Int)
    · go_enter Try.func54, Try.ntmps54
      go_wp2
      go_ret
      exact ⟨by first | rfl | (rw [decide_eq_false (Int.not_lt.2 h1), decide_eq_true h2]; rfl), rfl⟩
    · go_enter Try.func54, Try.ntmps54
      go_wp2
      go_ret
      exact ⟨by first | rfl | (rw [decide_eq_false (Int.not_lt.2 h1), decide_eq_false (Int.not_lt.2 h2)]; rfl), rfl⟩

/-! ### the laws' argument -/
set_option maxRecDepth 100000 in
theorem arg_bytes {H : Type} {enc : TypeId × Value → H} {W : World} {base : Nat} {v : Value} {d : DataW H} {q : List MemPlace}
    (hval : Value.okWide Try.prog W .any base 55 v) (h : DataW.Trod enc Try.prog W 0 (fun _ => true) true 55 v d q) :
    ∃ (a : Option Addr) (c : Nat) (xs : List Int), v = .slice a xs.length c ∧ Bytes W a xs ∧ xs.length ≤ maxLen ∧ (∀ x ∈ xs, 0 ≤ x ∧ x ≤ 255) ∧ (xs.length ≤ 3000 → ByteP W.heap.size a xs W) := by
  obtain ⟨a0, len0, cap0, rfl⟩ := okWide_slice Try.underlying55 hval
  obtain ⟨fuel, hf⟩ := h
  have K : ∃ (a : Option Addr) (c : Nat) (xs : List Int), (Value.slice a0 len0 cap0).cells.toList = [.slice a xs.length c] ∧ Bytes W a xs ∧ xs.length ≤ maxLen ∧ (∀ x ∈ xs, 0 ≤ x ∧ x ≤ 255) := by
    rcases open_ints Try.underlying55 Try.underlying5 (by kernel_rfl) hf with ⟨hcs, hx⟩ | ⟨a, len, cap, zs, hcs, _, hl, hm, hz, hx, hcell, hwz⟩
    · exact ⟨none, 0, [], by simpa using hcs, by intro j v hv; simp at hv, by simp, by simp⟩
    · have hz' : zs.length = cap := by simpa using hz
      have hlen : (zs.take len).length = len := by simp; omega
      refine ⟨some a, cap, zs.take len, by rw [hlen]; exact hcs, ?_, by omega, fun n hn => ?_⟩
      · intro j v hv
        simp only [List.getElem?_map, Option.map_eq_some_iff] at hv
        obtain ⟨n, hn, rfl⟩ := hv
        rw [List.getElem?_take] at hn
        split at hn
        · rename_i hj
          obtain ⟨b, off, ha, hc⟩ := ints_at hcell (by omega)
          refine ⟨b, off, by rw [ha], ?_⟩
          rw [hc j (by omega)]
          simp [List.getD_eq_getElem?_getD, hn]
        · simp at hn
      · have := hwz n (List.mem_of_mem_take hn)
        simpa [Lit.wf, IntKind.min, IntKind.max, IntKind.signed, IntKind.bits] using this
  obtain ⟨a, c, xs, hcs, hb, hl, hr⟩ := K
  refine ⟨a, c, xs, ?_, hb, hl, hr, fun h3 => ⟨hb, hr, h3, fun cb co s hs hp => ?_⟩⟩
  · simp [Value.cells] at hcs
    obtain ⟨rfl, rfl, rfl⟩ := hcs
    rfl
  · obtain ⟨b, off, ha, hc⟩ := hb 0 (.int .u8 xs[0]) (by simp [hp])
    rw [hs] at ha
    cases ha
    exact World.block_lt_of_cell? W _ hc

end Go.Proofs.Yteabheocbkcmnaa
