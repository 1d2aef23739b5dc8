/- Sow: sowing in plain terms, and the contracts of the functions that tell the next place. Each holds for every argument, under the bounds that its premises state. -/
import Derived.Test.YtbjgigdkbjabaaaInts
namespace Go.Proofs.Ytbjgigdkbjabaaa
set_option linter.unusedSimpArgs false
set_option linter.unusedVariables false
set_option linter.unnecessarySimpa false
open Go.RowKit Go.ChangeShapes Go.WideShapes Go.ChangeAt Go.Joins

/-- rules that are in bounds -/
structure R.Bd (r : R) : Prop where
  lo : 2 ≤ r.pits
  hi : r.pits ≤ 8
theorem R.ok_bd {r : R} (h : r.ok = true) : r.Bd := by
  obtain ⟨h1, _⟩ := R.ok_iff.1 h
  exact ⟨h1.1, h1.2⟩

/-- the place behind a place of a player; -1 is the player's store -/
def nextP (r : R) (pl place : Int) : Int :=
  if place = -1 then ((pl + 1) * r.pits) % (2 * r.pits) else if r.stores = true ∧ place = (pl + 1) * r.pits - 1 then -1 else (place + 1) % (2 * r.pits)
def PlaceOk (r : R) (place : Int) : Prop := place = -1 ∨ (0 ≤ place ∧ place < 2 * r.pits)
theorem nextP_ok {r : R} (hb : r.Bd) (pl place : Int) (hp : 0 ≤ pl ∧ pl ≤ 1) (h : PlaceOk r place) : PlaceOk r (nextP r pl place) := by
  have := hb.lo
  unfold nextP
  split
  · exact .inr ⟨Int.emod_nonneg _ (by omega), Int.emod_lt_of_pos _ (by omega)⟩
  · split
    · exact .inl rfl
    · exact .inr ⟨Int.emod_nonneg _ (by omega), Int.emod_lt_of_pos _ (by omega)⟩
theorem succ_mod {p place : Int} (hp : 2 ≤ p) (h0 : 0 ≤ place) (h1 : place < 2 * p) : (place + 1) % (2 * p) = if place = 2 * p - 1 then 0 else place + 1 := by
  split
  · rename_i e; subst e
    rw [show 2 * p - 1 + 1 = 2 * p by omega, Int.emod_self]
  · exact Int.emod_eq_of_lt (by omega) (by omega)
theorem nextP_ne {r : R} (hb : r.Bd) (pl place : Int) (hp : 0 ≤ pl ∧ pl ≤ 1) (h : PlaceOk r place) : nextP r pl place ≠ place := by
  have h2 := hb.lo
  unfold nextP
  split
  · rename_i e; subst e
    have := Int.emod_nonneg ((pl + 1) * r.pits) (b := 2 * r.pits) (by omega)
    omega
  · rename_i hn
    rcases h with h | ⟨h0, h1⟩
    · exact absurd h hn
    · split
      · omega
      · rw [succ_mod h2 h0 h1]
        split <;> omega
/-- where the next seed falls -/
def stepP (r : R) (pl from_ place : Int) : Int := if r.skip = true ∧ nextP r pl place = from_ then nextP r pl (nextP r pl place) else nextP r pl place
theorem stepP_ok {r : R} (hb : r.Bd) (pl from_ place : Int) (hp : 0 ≤ pl ∧ pl ≤ 1) (h : PlaceOk r place) : PlaceOk r (stepP r pl from_ place) := by
  unfold stepP
  split
  · exact nextP_ok hb _ _ hp (nextP_ok hb _ _ hp h)
  · exact nextP_ok hb _ _ hp h
theorem stepP_from {r : R} (hb : r.Bd) (pl from_ place : Int) (hp : 0 ≤ pl ∧ pl ≤ 1) (hf : PlaceOk r from_) (h : r.skip = true ∧ nextP r pl place = from_) : stepP r pl from_ place = stepP r pl from_ from_ := by
  have hne := nextP_ne hb pl from_ hp hf
  unfold stepP
  rw [if_pos h, if_neg (by intro h'; exact hne h'.2), h.2]

/-- one seed more -/
def bump (l : List Int) (i : Int) : List Int := l.set i.toNat (l.getD i.toNat 0 + 1)
theorem bump_length (l : List Int) (i : Int) : (bump l i).length = l.length := by simp [bump]

/-- what a lap leads to: pits, stores, path, last place -/
structure Lap where
  pits : List Int
  stores : List Int
  path : List Int
  last : Int
def lapGo (r : R) (pl from_ : Int) : Nat → Int → List Int → List Int → List Int → Lap
  | 0, place, pits, stores, path => ⟨pits, stores, path, place⟩
  | n + 1, place, pits, stores, path =>
    let q := stepP r pl from_ place
    if q = -1 then lapGo r pl from_ n q pits (bump stores pl) (path ++ [q]) else lapGo r pl from_ n q (bump pits q) stores (path ++ [q])
theorem lapGo_from {r : R} (hb : r.Bd) (pl from_ place : Int) (hp : 0 ≤ pl ∧ pl ≤ 1) (hf : PlaceOk r from_) (h : r.skip = true ∧ nextP r pl place = from_) (n : Nat) (pits stores path : List Int) :
    lapGo r pl from_ (n + 1) place pits stores path = lapGo r pl from_ (n + 1) from_ pits stores path := by
  simp only [lapGo, stepP_from hb pl from_ place hp hf h]
/-- a lap from a pit -/
def lapP (r : R) (pl from_ : Int) (pits stores path : List Int) : Lap := lapGo r pl from_ (pits.getD from_.toNat 0).toNat from_ (pits.set from_.toNat 0) stores path

set_option maxHeartbeats 1000000 in
theorem l05Next_c (b o : Nat) (r : R) (pl place : Int) (w : World) (h : R.At w b o r) (hb : r.Bd) (hp : 0 ≤ pl ∧ pl ≤ 1) (hpl : PlaceOk r place) :
    Calls Try.prog 185 #[.pointer (some ⟨b, o, none⟩), .int .i64 pl, .int .i64 place] w fun e w' => e = .returned (.int .i64 (nextP r pl place)) ∧ w = w' := by
  obtain ⟨c0, c1, c2, c3, c4, c5, c6, c7, c8⟩ := h
  obtain ⟨hlo, hhi⟩ := hb
  obtain ⟨hp0, hp1⟩ := hp
  have hm1 : 0 ≤ (pl + 1) * r.pits := Int.mul_nonneg (by omega) (by omega)
  have hm2 : (pl + 1) * r.pits ≤ 16 := by
    have := Int.mul_le_mul (a := pl + 1) (b := r.pits) (c := 2) (d := 8) (by omega) hhi (by omega) (by omega)
    omega
  have hm3 : 2 ≤ (pl + 1) * r.pits := by
    have := Int.mul_le_mul (a := 1) (b := 2) (c := pl + 1) (d := r.pits) (by omega) hlo (by omega) (by omega)
    omega
  have hge : -1 ≤ place := by rcases hpl with h | h <;> omega
  have hle : place < 2 * r.pits := by rcases hpl with h | h <;> omega
  go_enter Try.func185, Try.ntmps185
  go_wp2
  all_goals go_ret
  all_goals refine ⟨ret_int ?_, rfl⟩
  all_goals unfold nextP
  all_goals repeat' split
  all_goals first | (simp_all; done) | (simp_all; omega)

set_option maxHeartbeats 1000000 in
theorem after_c (r : R) (pl place : Int) (w : World) (hb : r.Bd) (hp : 0 ≤ pl ∧ pl ≤ 1) (hpl : PlaceOk r place) :
    Calls Try.prog 159 #[r.val, .int .i64 pl, .int .i64 place] w fun e w' => e = .returned (.int .i64 (nextP r pl place)) ∧ Below w.heap.size w w' := by
  obtain ⟨hlo, hhi⟩ := hb
  obtain ⟨hp0, hp1⟩ := hp
  have hm1 : 0 ≤ (pl + 1) * r.pits := Int.mul_nonneg (by omega) (by omega)
  have hm2 : (pl + 1) * r.pits ≤ 16 := by
    have := Int.mul_le_mul (a := pl + 1) (b := r.pits) (c := 2) (d := 8) (by omega) hhi (by omega) (by omega)
    omega
  have hm3 : 2 ≤ (pl + 1) * r.pits := by
    have := Int.mul_le_mul (a := 1) (b := 2) (c := pl + 1) (d := r.pits) (by omega) hlo (by omega) (by omega)
    omega
  have hge : -1 ≤ place := by rcases hpl with h | h <;> omega
  have hle : place < 2 * r.pits := by rcases hpl with h | h <;> omega
  go_enter Try.func159, Try.ntmps159
  go_wp2
  all_goals go_ret
  all_goals refine ⟨ret_int ?_, below_alloc1 _ _⟩
  all_goals unfold nextP
  all_goals repeat' split
  all_goals first | (simp_all; done) | (simp_all; omega)

end Go.Proofs.Ytbjgigdkbjabaaa
