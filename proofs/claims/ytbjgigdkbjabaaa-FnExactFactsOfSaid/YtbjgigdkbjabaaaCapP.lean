/- CapP: captures and moves in plain terms. Each fact holds under the premises that it states. -/
import Derived.Test.YtbjgigdkbjabaaaSowP
import Derived.Test.YtbjgigdkbjabaaaCore1
namespace Go.Proofs.Ytbjgigdkbjabaaa
set_option linter.unusedSimpArgs false
set_option linter.unusedVariables false
set_option linter.unnecessarySimpa false

/-- the code of a move in a position -/
def codeP (r : R) (p : P) (move : Int) : Int :=
  if p.ok r = false then 1 else if inB move 0 (r.pits - 1) = false then 2 else if p.pits.getD (p.player * r.pits + move).toNat 0 = 0 then 6 else 0

/-- what a valid position is -/
theorem P.ok_parts {p : P} {r : R} (h : p.ok r = true) : r.Bd ∧ (∃ pn : Nat, p.player = pn ∧ pn ≤ 1) ∧ ∃ t, Brd r p.pits p.stores t ∧ 0 ≤ t ∧ t ≤ 96 := by
  simp only [P.ok, Bool.and_eq_true, decide_eq_true_eq] at h
  obtain ⟨⟨⟨⟨⟨⟨h1, h2⟩, h3⟩, h4⟩, h5⟩, h6⟩, h7⟩ := h
  have hp := inB_iff.1 h4
  have n1 : nn p.pits := fun n hn => (allIn_get h5 hn).1
  have n2 : nn p.stores := fun n hn => (allIn_get h6 hn).1
  exact ⟨R.ok_bd h1, ⟨p.player.toNat, by omega, by omega⟩, p.pits.sum + p.stores.sum, ⟨h2, h3, n1, n2, rfl⟩, by have := nn_sum n1; have := nn_sum n2; omega, h7⟩
/-- a move without a fault goes from a pit with seeds -/
theorem codeP_zero {r : R} {p : P} {move : Int} (h : codeP r p move = 0) : p.ok r = true ∧ (0 ≤ move ∧ move ≤ r.pits - 1) ∧ ¬ p.pits.getD (p.player * r.pits + move).toNat 0 = 0 := by
  unfold codeP at h
  split at h
  · omega
  · split at h
    · omega
    · split at h
      · omega
      · rename_i h1 h2 h3
        exact ⟨by simpa using h1, inB_iff.1 (by simpa using h2), h3⟩
/-- the pit of a move -/
theorem from_ok {r : R} {p : P} {move : Int} (h : p.ok r = true) (hm : 0 ≤ move ∧ move ≤ r.pits - 1) : ∃ fn : Nat, p.player * r.pits + move = fn ∧ fn < p.pits.length := by
  obtain ⟨hb, ⟨pn, hpn, hp1⟩, t, hB, _⟩ := P.ok_parts h
  have := hb.lo
  have := hB.lp
  have h3 : 0 ≤ p.player * r.pits := Int.mul_nonneg (by omega) (by omega)
  have h4 : p.player * r.pits ≤ 1 * r.pits := Int.mul_le_mul_of_nonneg_right (by omega) (by omega)
  exact ⟨(p.player * r.pits + move).toNat, by omega, by omega⟩

/-! ### captures -/
/-- the pits taken by the two-three rule, from pit k - 1 down -/
def twoGo (r : R) (pl : Int) (P : List Int) : Nat → List Int
  | 0 => []
  | k + 1 => if ¬ (k : Int) / r.pits = pl ∧ inB (P.getD k 0) 2 3 = true then (k : Int) :: twoGo r pl P k else []
def rawP (r : R) (pl : Int) (P : List Int) (last : Int) : List Int :=
  if last < 0 then []
  else if r.capture = 1 then twoGo r pl P (last.toNat + 1)
  else if r.capture = 2 then (if last / r.pits = pl ∧ P.getD last.toNat 0 = 1 ∧ 0 < P.getD (2 * r.pits - 1 - last).toNat 0 then [last, 2 * r.pits - 1 - last] else [])
  else if r.capture = 3 then (if ¬ last / r.pits = pl ∧ P.getD last.toNat 0 % 2 = 0 then [last] else [])
  else []
/-- the seeds in some pits -/
def gainP (P : List Int) (l : List Int) : Int := (l.map fun k => P.getD k.toNat 0).sum
/-- the seeds of the other player in some pits -/
def goneP (r : R) (pl : Int) (P : List Int) (l : List Int) : Int := gainP P (l.filter fun k => ¬ k / r.pits = pl)
/-- the seeds of a player -/
def sideP (r : R) (P : List Int) (pl : Int) : Int := ((P.drop (pl * r.pits).toNat).take r.pits.toNat).sum
def slamP (r : R) (pl : Int) (P : List Int) (last : Int) : Bool := decide (0 < goneP r pl P (rawP r pl P last)) && decide (sideP r P (1 - pl) = goneP r pl P (rawP r pl P last))
def capP (r : R) (pl : Int) (P : List Int) (last : Int) : List Int := if r.slam = 2 ∧ slamP r pl P last = true then [] else rawP r pl P last
/-- some pits are emptied -/
def zeroP (P : List Int) : List Int → List Int
  | [] => P
  | k :: l => zeroP (P.set k.toNat 0) l
def takeP (r : R) (pl : Int) (P S : List Int) (last : Int) : List Int × List Int :=
  (zeroP P (capP r pl P last), S.set pl.toNat (S.getD pl.toNat 0 + gainP P (capP r pl P last)))

/-- the pits that are taken are on the board, each once -/
def PitsOk (n : Nat) (l : List Int) : Prop := (∀ k ∈ l, 0 ≤ k ∧ k < n) ∧ l.Nodup
theorem twoGo_ok (r : R) (pl : Int) (P : List Int) : ∀ k, PitsOk k (twoGo r pl P k) ∧ (twoGo r pl P k).length ≤ k
  | 0 => ⟨⟨by simp [twoGo], by simp [twoGo]⟩, by simp [twoGo]⟩
  | k + 1 => by
    obtain ⟨⟨h1, h2⟩, h3⟩ := twoGo_ok r pl P k
    unfold twoGo
    split
    · refine ⟨⟨?_, ?_⟩, by simp; exact h3⟩
      · intro j hj
        rcases List.mem_cons.1 hj with rfl | hj
        · omega
        · have := h1 j hj; omega
      · refine List.nodup_cons.2 ⟨fun hk => ?_, h2⟩
        have := h1 _ hk; omega
    · exact ⟨⟨by simp, by simp⟩, by simp⟩
theorem rawP_ok {r : R} (hb : r.Bd) (pl : Int) (P : List Int) (last : Int) (hl : (P.length : Int) = 2 * r.pits) (ho : PlaceOk r last) : PitsOk P.length (rawP r pl P last) ∧ (rawP r pl P last).length ≤ 16 := by
  have h2 := hb.lo
  have h8 := hb.hi
  unfold rawP
  split
  · exact ⟨⟨by simp, by simp⟩, by simp⟩
  · rename_i hn
    have hlt : 0 ≤ last ∧ last < 2 * r.pits := by rcases ho with h | h <;> omega
    split
    · obtain ⟨⟨k1, k2⟩, k3⟩ := twoGo_ok r pl P (last.toNat + 1)
      refine ⟨⟨fun j hj => ?_, k2⟩, by omega⟩
      have := k1 j hj; omega
    · split
      · split
        · refine ⟨⟨fun j hj => ?_, ?_⟩, by simp⟩
          · simp at hj; omega
          · simp; omega
        · exact ⟨⟨by simp, by simp⟩, by simp⟩
      · split
        · split
          · refine ⟨⟨fun j hj => ?_, by simp⟩, by simp⟩
            simp at hj; omega
          · exact ⟨⟨by simp, by simp⟩, by simp⟩
        · exact ⟨⟨by simp, by simp⟩, by simp⟩
theorem capP_ok {r : R} (hb : r.Bd) (pl : Int) (P : List Int) (last : Int) (hl : (P.length : Int) = 2 * r.pits) (ho : PlaceOk r last) : PitsOk P.length (capP r pl P last) ∧ (capP r pl P last).length ≤ 16 := by
  unfold capP
  split
  · exact ⟨⟨by simp, by simp⟩, by simp⟩
  · exact rawP_ok hb pl P last hl ho
theorem zeroP_length (l : List Int) : ∀ P, (zeroP P l).length = P.length := by
  induction l with
  | nil => intro P; rfl
  | cons k l ih => intro P; simp [zeroP, ih]
theorem zeroP_append (l m : List Int) : ∀ P, zeroP P (l ++ m) = zeroP (zeroP P l) m := by
  induction l with
  | nil => intro P; rfl
  | cons k l ih => intro P; simp [zeroP, ih]
theorem zeroP_get (l : List Int) : ∀ (P : List Int) (k : Int), 0 ≤ k → k ∉ l → (∀ j ∈ l, 0 ≤ j) → (zeroP P l).getD k.toNat 0 = P.getD k.toNat 0 := by
  induction l with
  | nil => intro P k _ _ _; rfl
  | cons j l ih =>
    intro P k h0 hn hj
    simp only [zeroP]
    rw [ih _ k h0 (fun h => hn (by simp [h])) (fun i hi => hj i (by simp [hi]))]
    have hj0 := hj j (by simp)
    have hne : ¬ j.toNat = k.toNat := by
      intro e
      apply hn
      have : j = k := by omega
      simp [this]
    simp [List.getD_eq_getElem?_getD, List.getElem?_set, hne]
theorem gainP_append (P l m : List Int) : gainP P (l ++ m) = gainP P l + gainP P m := by simp [gainP]
theorem gainP_cons (P : List Int) (k : Int) (m : List Int) : gainP P (k :: m) = P.getD k.toNat 0 + gainP P m := by simp [gainP]
theorem goneP_append (r : R) (pl : Int) (P l m : List Int) : goneP r pl P (l ++ m) = goneP r pl P l + goneP r pl P m := by simp [goneP, gainP_append]

/-! ### moves -/
/-- a move that is done: the code, pits and stores behind it, and the last place -/
structure Done where
  code : Int
  pits : List Int
  stores : List Int
  last : Int
  laps : Int
def Done.bad (c : Int) : Done := ⟨c, [], [], 0, 0⟩
def doneP (r : R) (p : P) (move : Int) : Done :=
  if codeP r p move = 0 then
    match sowP r p.player (p.player * r.pits + move) p.pits p.stores with
    | none => .bad 10
    | some (L, n) =>
      if r.slam = 1 ∧ slamP r p.player L.pits L.last = true then .bad 9
      else if r.feed = true ∧ sideP r p.pits (1 - p.player) = 0 ∧ sideP r (takeP r p.player L.pits L.stores L.last).1 (1 - p.player) = 0 then .bad 9
      else ⟨0, (takeP r p.player L.pits L.stores L.last).1, (takeP r p.player L.pits L.stores L.last).2, L.last, n⟩
  else .bad (codeP r p move)
/-- a move has too many laps -/
def endlessP (r : R) (p : P) (move : Int) : Bool := decide (codeP r p move = 0) && (sowP r p.player (p.player * r.pits + move) p.pits p.stores).isNone
theorem codeP_ne (r : R) (p : P) (move : Int) : ¬ codeP r p move = 10 := by
  unfold codeP; repeat' split
  all_goals omega

end Go.Proofs.Ytbjgigdkbjabaaa
