/- SCap1: captures: the reference's small functions. Each contract holds for every argument, under the premises that it states. -/
import Derived.Test.YteabheocbkcmnaaCap3
namespace Go.Proofs.Yteabheocbkcmnaa
set_option linter.unusedSimpArgs false
set_option linter.unusedVariables false
set_option linter.unnecessarySimpa false
open Go.RowKit Go.ChangeShapes Go.WideShapes Go.ChangeAt Go.Joins

/-- what is sown, in memory -/
structure SnA (w : World) (b o : Nat) (P S : List Int) (last laps : Int) (pa : Option Addr) (pc : Nat) (sa : Option Addr) (sc : Nat) : Prop where
  c0 : w.cell? ⟨b, o, none⟩ = some (.slice pa P.length pc)
  c1 : w.cell? ⟨b, o + 1, none⟩ = some (.slice sa S.length sc)
  c2 : w.cell? ⟨b, o + 2, none⟩ = some (.int .i64 last)
  c3 : w.cell? ⟨b, o + 3, none⟩ = some (.int .i64 laps)
theorem SnA.below {B : Nat} {w w' : World} {b o : Nat} {P S : List Int} {last laps : Int} {pa sa : Option Addr} {pc sc : Nat} (h : SnA w b o P S last laps pa pc sa sc) (hb : Below B w w') (hB : b < B) : SnA w' b o P S last laps pa pc sa sc :=
  ⟨(hb.cell (show (Addr.mk b _ none).block < B from hB)).trans h.c0, (hb.cell (show (Addr.mk b _ none).block < B from hB)).trans h.c1, (hb.cell (show (Addr.mk b _ none).block < B from hB)).trans h.c2, (hb.cell (show (Addr.mk b _ none).block < B from hB)).trans h.c3⟩
theorem SnA.draw {w : World} {b o : Nat} {P S : List Int} {last laps : Int} {pa sa : Option Addr} {pc sc : Nat} (h : SnA w b o P S last laps pa pc sa sc) (n : Nat) : SnA (w.drewN n) b o P S last laps pa pc sa sc := ⟨h.c0, h.c1, h.c2, h.c3⟩

set_option maxHeartbeats 1000000 in
theorem l02Owner_c (rb ro : Nat) (r : R) (n : Nat) (w : World) (h : R.At w rb ro r) (hb : r.Bd) (hn : n ≤ 1000) : Calls Try.prog 165 #[.pointer (some ⟨rb, ro, none⟩), .int .i64 n] w fun e w' => e = .returned (.int .i64 ((n : Int) / r.pits)) ∧ w = w' := by
  obtain ⟨lo, hi⟩ := hb
  have c0 := h.c0
  have q0 : 0 ≤ (n : Int) / r.pits := Int.ediv_nonneg (by omega) (by omega)
  have q1 : (n : Int) / r.pits ≤ n := Int.ediv_le_self _ (by omega)
  go_enter Try.func165, Try.ntmps165
  go_wp2
  go_ret
  exact ⟨rfl, rfl⟩

set_option maxHeartbeats 1000000 in
theorem l02Opposite_c (rb ro : Nat) (r : R) (n : Nat) (w : World) (h : R.At w rb ro r) (hb : r.Bd) (hn : n ≤ 1000) : Calls Try.prog 169 #[.pointer (some ⟨rb, ro, none⟩), .int .i64 n] w fun e w' => e = .returned (.int .i64 (2 * r.pits - 1 - n)) ∧ w = w' := by
  obtain ⟨lo, hi⟩ := hb
  have c0 := h.c0
  go_enter Try.func169, Try.ntmps169
  go_wp2
  go_ret
  exact ⟨rfl, rfl⟩

theorem psum_drop {P : List Int} {u j : Nat} (h : u + j < P.length) : psum (P.drop u) (j + 1) = psum (P.drop u) j + P[u + j] := by
  have h1 : j < (P.drop u).length := by simp; omega
  rw [psum_succ h1]
  simp
set_option maxHeartbeats 2000000 in
theorem l04Side_c (rb ro : Nat) (r : R) (hb : r.Bd) (pn : Nat) (hp : pn ≤ 1) (P : List Int) (hlen : (P.length : Int) = 2 * r.pits) (ha : allIn P = true) (pa : Option Addr) (pc : Nat) (w : World) (hr : R.At w rb ro r) (hP : Ints w pa P) :
    Calls Try.prog 132 #[.pointer (some ⟨rb, ro, none⟩), .slice pa P.length pc, .int .i64 pn] w fun e w' => e = .returned (.int .i64 (sideP r P pn)) ∧ w = w' := by
  obtain ⟨lo, hi⟩ := hb
  have c0 := hr.c0
  obtain ⟨b, o, rfl, hbs, hcs⟩ := Ints.open hP (by omega)
  have HCS := Lib.hid hcs
  obtain ⟨k, hk⟩ : ∃ k : Nat, r.pits = k := ⟨r.pits.toNat, by omega⟩
  obtain ⟨u, hu⟩ : ∃ u : Nat, u = pn * k := ⟨_, rfl⟩
  obtain ⟨v, hv⟩ : ∃ v : Nat, v = (pn + 1) * k := ⟨_, rfl⟩
  have e1 : (pn : Int) * r.pits = (u : Int) := by rw [hk, hu]; simp
  have e2 : ((pn : Int) + 1) * r.pits = (v : Int) := by rw [hk, hv]; simp
  have hk1 : v ≤ P.length := by
    have : (pn + 1) * k ≤ 2 * k := Nat.mul_le_mul_right k (by omega)
    omega
  have hk2 : v = u + k := by rw [hv, hu, Nat.add_mul]; simp
  have hSD : Hid (sideP r P pn = psum (P.drop u) k) := by
    unfold Hid sideP psum
    rw [e1, Int.toNat_natCast, hk, Int.toNat_natCast]
  have hv16 : v ≤ 16 := by omega
  have hk8 : k ≤ 8 := by omega
  have HA : Hid (∀ j, allIn ((P.drop u).take j) = true) := fun j => sub_sum ha _ _
  have hbd : bdL P 96 := fun n hn => allIn_get ha hn
  clear hu hv hcs hk
  go_enter Try.func132, Try.ntmps132
  go_wp2
  go_loop [7, 8] (fun s i => ∃ (j x : Nat), j ≤ k ∧ Hid (x = u + j) ∧ i = .int .i64 x ∧ s = .int .i64 (psum (P.drop u) j)) (fun _ i => v - (intOf i).toNat)
  case atStart => exact ⟨0, u, Nat.zero_le _, rfl, rfl, rfl⟩
  case round =>
    obtain ⟨j, x, hj, hx, rfl, rfl⟩ := hrel
    obtain ⟨b0, b1⟩ := psum_bd (HA.out j)
    have b2 : psum (P.drop u) j ≤ 96 * 8 := by omega
    have hxx : x = u + j := hx.out
    have hxl' : x < v → x < P.length := by omega
    have hjk : x < v → j + 1 ≤ k := by omega
    have hjk2 : ¬ x < v → j = k := by omega
    clear hxx
    by_cases hlt : x < v
    · have hxl : x < P.length := hxl' hlt
      have hj1 := hjk hlt
      clear hxl' hjk hjk2
      obtain ⟨y, hy⟩ : ∃ y, y = P[x] := ⟨_, rfl⟩
      have hyb : 0 ≤ y ∧ y ≤ 96 := by rw [hy]; exact bdL_get hbd hxl
      obtain ⟨y0, y9⟩ := hyb
      have hcx : w.cell? ⟨b, o + x, none⟩ = some (.int .i64 y) := by rw [hy]; exact HCS.out x hxl
      have HP : Hid (psum (P.drop u) (j + 1) = psum (P.drop u) j + y) := by
        have hxx : x = u + j := hx.out
        subst hxx
        rw [hy]
        exact psum_drop hxl
      clear hy
      go_wp2
      go_round
      case rel => exact ⟨j + 1, x + 1, hj1, by unfold Hid; have := hx.out; omega, by go_num, by rw [HP.out]⟩
      case measure => simp [intOf]; omega
    · obtain rfl : j = k := hjk2 hlt
      clear hxl' hjk hjk2
      go_wp2
      go_ret
      exact ⟨by rw [hSD.out]; rfl, rfl⟩

set_option maxHeartbeats 4000000 in
theorem l06Sum_c (b0 o0 : Nat) (P S l : List Int) (last laps : Int) (pa sa la : Option Addr) (pc sc lc : Nat) (w : World) (hs : SnA w b0 o0 P S last laps pa pc sa sc) (hP : Ints w pa P) (hl : Ints w la l) (hbd : bdL P 96) (hok : PitsOk P.length l) (hll : l.length ≤ 16) (hP0 : 0 < P.length) :
    Calls Try.prog 167 #[.pointer (some ⟨b0, o0, none⟩), .slice la l.length lc] w fun e w' => e = .returned (.int .i64 (gainP P l)) ∧ ∃ m, w' = w.drewN m := by
  obtain ⟨d0, d1, d2, d3⟩ := hs
  obtain ⟨b, o, rfl, hbs, hcs⟩ := Ints.open hP hP0
  have HCS := Lib.hid hcs
  obtain ⟨lok, lnd⟩ := hok
  clear hcs
  go_enter Try.func167, Try.ntmps167
  go_wp2
  go_loopw [5, 6] (fun s i wr => ∃ (k m : Nat), k ≤ l.length ∧ i = .int .i64 k ∧ s = .int .i64 (gainP P (l.take k)) ∧ wr = w.drewN m) (fun _ i _ => l.length - (intOf i).toNat)
  case atStart => exact ⟨0, 0, Nat.zero_le _, rfl, by simp [gainP], rfl⟩
  case round =>
    obtain ⟨k, m, hk, rfl, rfl, hw⟩ := hrel
    obtain ⟨g0, g1⟩ := gainP_bd hbd (by omega) (l.take k)
    have glen : (l.take k).length ≤ 16 := by simp; omega
    obtain ⟨gv, hgv⟩ : ∃ gv, gv = gainP P (l.take k) := ⟨_, rfl⟩
    have g2 : gv ≤ 96 * 16 := by omega
    rw [← hgv] at g0 ⊢
    by_cases hlt : k < l.length
    · have hSC := Lib.hid (gainP_succ P l hlt)
      rw [← hgv] at hSC
      obtain ⟨hx0, hx1⟩ := lok l[k] (List.getElem_mem hlt)
      obtain ⟨x, hx⟩ : ∃ x : Nat, l[k] = x := ⟨l[k].toNat, by omega⟩
      have hxl : x < P.length := by omega
      rw [hx] at hSC
      obtain ⟨b', o', rfl, hb', hcl⟩ := Ints.open hl (by omega)
      have hcx := hcl k hlt
      rw [hx] at hcx
      obtain ⟨v, hv⟩ : ∃ v, v = P[x] := ⟨_, rfl⟩
      have hvb : 0 ≤ v ∧ v ≤ 96 := by rw [hv]; exact bdL_get hbd hxl
      obtain ⟨v0, v9⟩ := hvb
      have hcv : w.cell? ⟨b, o + x, none⟩ = some (.int .i64 v) := by rw [hv]; exact HCS.out x hxl
      have hPv : P.getD (x : Int).toNat 0 = v := by rw [hv]; simp [hxl]
      rw [hPv] at hSC
      have hxc : ∀ b o, wr.cell? ⟨b, o, none⟩ = w.cell? ⟨b, o, none⟩ := fun b o => by rw [hw]; simp
      rw [← hxc] at hcx hcv
      have d0' := (hxc _ _).trans d0
      have HW := Lib.hid hw
      clear hcl hx hv hPv hgv hx0 hx1 g1 hw hxc d0 d1 d2 d3
      go_wp2_with fail
      go_region
      go_wp2
      go_roundw
      case rel => exact ⟨k + 1, _, by omega, by go_num, by rw [hSC.out], by rw [HW.out]; exact World.drewN_drewN _ _ _⟩
      case measure => simp [intOf]; omega
    · have he : l.take k = l := List.take_of_length_le (by omega)
      rw [he] at hgv
      have HG := Lib.hid hgv
      have HW := Lib.hid hw
      clear he hgv g1 hw
      go_wp2
      go_ret
      exact ⟨by rw [← HG.out]; rfl, m, HW.out⟩

end Go.Proofs.Yteabheocbkcmnaa
