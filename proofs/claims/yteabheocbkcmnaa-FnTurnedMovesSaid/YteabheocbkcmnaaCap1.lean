/- Cap1: captures: the program's functions that tell the pits taken. Each contract holds for every argument, under the premises that it states. -/
import Derived.Test.YteabheocbkcmnaaCapP
import Derived.Test.YteabheocbkcmnaaSMov
namespace Go.Proofs.Yteabheocbkcmnaa
set_option linter.unusedSimpArgs false
set_option linter.unusedVariables false
set_option linter.unnecessarySimpa false
open Go.RowKit Go.ChangeShapes Go.WideShapes Go.ChangeAt Go.Joins

theorem own_cap {w : World} {base size n c : Nat} {e : TypeId} {a : Option Addr} {vs : List Value} (h : w.ownsRow base e size (.slice a n c) n vs) : n ≤ c := by
  obtain ⟨_, ⟨h1, h2⟩ | ⟨g, cap, cur, hv, hb, hg, hn, _⟩⟩ := h
  · omega
  · cases hv; exact hn
/-- a new row of numbers -/
def IntsRes (w : World) (xs : List Int) (e : Ending) (w' : World) : Prop := ∃ a c, e = .returned (.slice a xs.length c) ∧ OwnI w' w.heap.size a c xs ∧ Below w.heap.size w w'
theorem own_none (w : World) (base : Nat) (h : base ≤ w.heap.size) : OwnI (w.alloc (.cells #[] 2)) base (some ⟨w.heap.size, 0, none⟩) 0 [] := by
  have := World.ownsRow_lit (base := base) (e := 2) (size := 1) w #[] 0 h (Nat.zero_le _) rfl
  simpa [OwnI] using this
/-- a row that has grown by some numbers -/
theorem Fr.app {w0 w w4 : World} {lo hi c c4 m : Nat} {a a4 : Option Addr} {xs ys : List Int} {cs : Array Value} {e : TypeId} {ls : List Res} (h : Fr w0 w (⟨lo, hi, RowP lo hi a c xs⟩ :: ls)) (hl : w0.heap.size ≤ lo) (hd : ∀ r ∈ ls, r.hi ≤ lo)
    (hg : (w.alloc (.cells cs e)).grownBy w4 (Value.slice a xs.length c).ownBlock) (ho : w4.ownsRow lo 2 1 (.slice a4 (xs.length + m) c4) (xs.length + m) (xs.map (Value.int .i64) ++ ys.map (Value.int .i64))) (hm : ys.length = m) :
    Fr w0 w4 (⟨lo, w4.heap.size, RowP lo w4.heap.size a4 c4 (xs ++ ys)⟩ :: ls) := by
  have h1 := h.step (below_alloc1 w (.cells cs e))
  have h2 := h1.chg (RowP.chg (h1.at 0 rfl) hg) hl (fun r hr => .inl (hd r hr))
  refine h2.own ?_
  subst hm
  simpa [OwnI] using ho

set_option maxHeartbeats 1000000 in
theorem owner_c (r : R) (n : Nat) (w : World) (hb : r.Bd) (hn : n ≤ 1000) : Calls Try.prog 156 #[r.val, .int .i64 n] w fun e w' => e = .returned (.int .i64 ((n : Int) / r.pits)) ∧ Below w.heap.size w w' := by
  obtain ⟨lo, hi⟩ := hb
  have q0 : 0 ≤ (n : Int) / r.pits := Int.ediv_nonneg (by omega) (by omega)
  have q1 : (n : Int) / r.pits ≤ n := Int.ediv_le_self _ (by omega)
  go_enter Try.func156, Try.ntmps156
  go_wp2
  go_ret
  exact ⟨rfl, below_alloc1 _ _⟩

set_option maxHeartbeats 1000000 in
theorem opposite_c (r : R) (n : Nat) (w : World) (hb : r.Bd) (hn : n ≤ 1000) : Calls Try.prog 161 #[r.val, .int .i64 n] w fun e w' => e = .returned (.int .i64 (2 * r.pits - 1 - n)) ∧ Below w.heap.size w w' := by
  obtain ⟨lo, hi⟩ := hb
  go_enter Try.func161, Try.ntmps161
  go_wp2
  go_ret
  exact ⟨rfl, below_alloc1 _ _⟩

theorem sub_row {w : World} {b o : Nat} {xs : List Int} (h : ∀ (j : Nat) (hj : j < xs.length), w.cell? ⟨b, o + j, none⟩ = some (.int .i64 xs[j])) (lo n : Nat) : Ints w (some ⟨b, o + lo, none⟩) ((xs.drop lo).take n) := by
  intro j v hv
  simp only [List.getElem?_map, List.getElem?_take, List.getElem?_drop] at hv
  split at hv
  · have hj : lo + j < xs.length := by
      rcases Nat.lt_or_ge (lo + j) xs.length with h1 | h1
      · exact h1
      · rw [List.getElem?_eq_none h1] at hv; simp at hv
    rw [List.getElem?_eq_getElem hj] at hv
    simp at hv
    refine ⟨b, o + lo, rfl, ?_⟩
    rw [Nat.add_assoc, h _ hj, hv]
  · simp at hv
theorem sub_sum {xs : List Int} (h : allIn xs = true) (lo n : Nat) : allIn ((xs.drop lo).take n) = true := by
  refine List.all_eq_true.2 fun x hx => ?_
  exact List.all_eq_true.1 h x (List.mem_of_mem_drop (List.mem_of_mem_take hx))
set_option maxHeartbeats 4000000 in
theorem side_c (r : R) (hb : r.Bd) (pn : Nat) (hp : pn ≤ 1) (P : List Int) (hlen : (P.length : Int) = 2 * r.pits) (ha : allIn P = true) (pa : Option Addr) (pc : Nat) (w : World) (hP : Ints w pa P) (hc : P.length ≤ pc) (hcm : pc ≤ maxLen) :
    Calls Try.prog 149 #[r.val, .slice pa P.length pc, .int .i64 pn] w fun e w' => e = .returned (.int .i64 (sideP r P pn)) ∧ Below w.heap.size w w' := by
  obtain ⟨lo, hi⟩ := hb
  obtain ⟨b, o, rfl, hbs, hcs⟩ := Ints.open hP (by omega)
  obtain ⟨k, hk⟩ : ∃ k : Nat, r.pits = k := ⟨r.pits.toNat, by omega⟩
  obtain ⟨u, hu⟩ : ∃ u : Nat, u = pn * k := ⟨_, rfl⟩
  obtain ⟨v, hv⟩ : ∃ v : Nat, v = (pn + 1) * k := ⟨_, rfl⟩
  have e1 : (pn : Int) * r.pits = (u : Int) := by rw [hk, hu]; simp
  have e2 : ((pn : Int) + 1) * r.pits = (v : Int) := by rw [hk, hv]; simp
  have hk1 : v ≤ P.length := by
    have : (pn + 1) * k ≤ 2 * k := Nat.mul_le_mul_right k (by omega)
    omega
  have hk2 : v = u + k := by rw [hv, hu, Nat.add_mul]; simp
  have hk3 : v - u = k := by omega
  have hll : ((P.drop u).take k).length = v - u := by simp; omega
  have hS := sumOf_c (some ⟨b, o + u, none⟩) (pc - u) ((P.drop u).take k) (w.alloc (.cells r.cells 24)) (fun j v hv => by
    obtain ⟨b', o', e, h⟩ := sub_row hcs u k j v hv
    cases e
    exact ⟨b, o + u, rfl, ((below_alloc1 w _).cell (show (Addr.mk b _ none).block < _ from hbs)).trans h⟩) (by omega)
  rw [hll, hk3] at hS
  have hvv : sumO ((P.drop u).take k) = sideP r P pn := by
    unfold sumO sideP
    rw [if_pos (sub_sum ha _ _), e1, Int.toNat_natCast, hk, Int.toNat_natCast]
  have HS := Lib.hid hS
  have HV := Lib.hid hvv
  have hpk : u ≤ 8 := by
    have : pn * k ≤ 1 * k := Nat.mul_le_mul_right k hp
    omega
  have hpv : v ≤ 16 := by omega
  have huv : u ≤ v := by omega
  have hvc : v ≤ pc := by omega
  have hc1 : ¬ pc ≤ u := by omega
  have hc2 : ¬ pc - u = 0 := by omega
  have hc3 : u < pc := by omega
  clear hS hvv hcs hll hu hv hk hk2
  go_enter Try.func149, Try.ntmps149
  go_wp2_with (go_at_call 135; refine HS.out.mono ?_; rintro e w' ⟨rfl, rfl⟩)
  go_ret
  exact ⟨by rw [HV.out]; rfl, below_alloc1 _ _⟩

end Go.Proofs.Yteabheocbkcmnaa
