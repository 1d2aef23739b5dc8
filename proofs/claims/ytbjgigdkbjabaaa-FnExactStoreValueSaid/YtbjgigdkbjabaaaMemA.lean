/- MemA: the place of a position in a memory: both sides. Each contract holds for every argument, under the premises that it states. -/
import Derived.Test.YtbjgigdkbjabaaaSlt4
import Derived.Test.YtbjgigdkbjabaaaPos
import Derived.Test.YtbjgigdkbjabaaaCore1
namespace Go.Proofs.Ytbjgigdkbjabaaa
set_option linter.unusedSimpArgs false
set_option linter.unusedVariables false
set_option linter.unnecessarySimpa false
open Go.RowKit Go.ChangeShapes Go.WideShapes Go.ChangeAt Go.Joins

/-! ### in plain terms -/
def hashGo : List Int → Int → Int
  | [], h => h
  | x :: l, h => hashGo l ((31 * h + x) % 1000003)
def hashP (pits : List Int) (player : Int) (n : Nat) : Int := hashGo pits (player + 1) % (n : Int)
theorem hashGo_bd : ∀ (l : List Int) (h : Int), 0 ≤ h → h ≤ 1000003 → (∀ x ∈ l, 0 ≤ x) → 0 ≤ hashGo l h ∧ hashGo l h ≤ 1000003
  | [], h, h0, h1, _ => ⟨h0, h1⟩
  | x :: l, h, h0, h1, hx => by
    have := hx x (List.mem_cons_self ..)
    refine hashGo_bd l _ ?_ ?_ (fun y hy => hx y (List.mem_cons_of_mem _ hy)) <;> omega
theorem hashGo_take : ∀ (l : List Int) (j : Nat) (h : Int) (hj : j < l.length), hashGo (l.take (j + 1)) h = (31 * hashGo (l.take j) h + l[j]) % 1000003
  | x :: l, 0, h, hj => by simp [hashGo]
  | x :: l, j + 1, h, hj => by
    simp only [List.take_succ_cons, hashGo, List.getElem_cons_succ]
    exact hashGo_take l j _ (by simpa using hj)

set_option maxRecDepth 100000 in
set_option maxHeartbeats 4000000 in
theorem l16Hash_c (pits : List Int) (pl : Int) (n : Nat) (a : Option Addr) (c : Nat) (w : World) (h : Ints w a pits) (hm : pits.length ≤ 1048576) (hp : 0 ≤ pl ∧ pl ≤ 1) (hb : ∀ x ∈ pits, 0 ≤ x ∧ x ≤ 96) (hn : 1 ≤ n ∧ n ≤ 64) :
    Calls Try.prog 131 #[.slice a pits.length c, .int .i64 pl, .int .i64 (n : Int)] w fun e w' => e = .returned (.int .i64 (hashP pits pl n)) ∧ w = w' := by
  have HH := Lib.hid h
  have HB := Lib.hid hb
  have hp0 := hp.1
  have hp1 := hp.2
  have hn0 := hn.1
  have hn1 := hn.2
  clear h hb hp hn
  go_enter Try.func131, Try.ntmps131
  go_wp2
  go_loop [7, 8] (fun q i => ∃ j : Nat, j ≤ pits.length ∧ i = .int .i64 j ∧ q = .int .i64 (hashGo (pits.take j) (pl + 1))) (fun _ i => pits.length - (intOf i).toNat)
  case atStart => exact ⟨0, Nat.zero_le _, rfl, rfl⟩
  case round =>
    obtain ⟨j, hj, rfl, rfl⟩ := hrel
    obtain ⟨k0, k1⟩ := hashGo_bd (pits.take j) (pl + 1) (by omega) (by omega) (fun x hx => (HB.out x (List.mem_of_mem_take hx)).1)
    by_cases hlt : j < pits.length
    · obtain ⟨b, o, ha, hb, hcs⟩ := Ints.open HH.out (by omega)
      have hc := hcs j hlt
      have HS := Lib.hid (hashGo_take pits j (pl + 1) hlt)
      obtain ⟨x0, x1⟩ := HB.out pits[j] (List.getElem_mem hlt)
      obtain ⟨x, hx⟩ : ∃ x, x = pits[j] := ⟨_, rfl⟩
      obtain ⟨K, hK⟩ : ∃ K, K = hashGo (pits.take j) (pl + 1) := ⟨_, rfl⟩
      rw [← hx] at hc HS x0 x1
      rw [← hK] at HS k0 k1 ⊢
      subst ha
      have hjI : (j : Int) < (pits.length : Int) := by omega
      have ht : (31 * K + x).tmod 1000003 = (31 * K + x) % 1000003 := Int.tmod_eq_emod_of_nonneg (by omega)
      have hr0 : 0 ≤ (31 * K + x) % 1000003 := by omega
      have hr1 : (31 * K + x) % 1000003 < 1000003 := by omega
      clear hcs hx hK
      go_wp2
      go_round
      case rel => exact ⟨j + 1, by omega, by go_num, by rw [HS.out]⟩
      case measure => simp [intOf]; omega
    · obtain rfl : j = pits.length := by omega
      rw [List.take_length] at k0 k1 ⊢
      have HP : Hid (hashP pits pl n = hashGo pits (pl + 1) % (n : Int)) := rfl
      obtain ⟨K, hK⟩ : ∃ K, K = hashGo pits (pl + 1) := ⟨_, rfl⟩
      rw [← hK] at HP k0 k1 ⊢
      have ht : K.tmod (n : Int) = K % (n : Int) := Int.tmod_eq_emod_of_nonneg k0
      clear hK
      go_wp2
      go_ret
      exact ⟨by rw [HP.out]; rfl, rfl⟩

set_option maxRecDepth 100000 in
set_option maxHeartbeats 4000000 in
theorem place_c (r : R) (ma : Option Addr) (mc n : Nat) (p : P) (a sa : Option Addr) (c sc : Nat) (w : World) (h : Ints w a p.pits) (hm : p.pits.length ≤ 1048576) (hp : 0 ≤ p.player ∧ p.player ≤ 1) (hb : ∀ x ∈ p.pits, 0 ≤ x ∧ x ≤ 96) (hn : 1 ≤ n ∧ n ≤ 64) :
    Calls Try.prog 132 #[meVal r ma n mc, p.val a c sa sc] w fun e w' => e = .returned (.int .i64 (hashP p.pits p.player n)) ∧ Below w.heap.size w w' := by
  obtain ⟨pits, stores, pl⟩ := p
  have F0 := ((Fr.start w).alloc (meCells r ma n mc) 52).alloc (P.cells ⟨pits, stores, pl⟩ a c sa sc) 30
  have HH := Lib.hid h
  have HF := Lib.hid F0.below
  have HB := Lib.hid hb
  have hp0 := hp.1
  have hp1 := hp.2
  have hn0 := hn.1
  have hn1 := hn.2
  dsimp only at hm hp0 hp1
  clear h hb hp hn F0
  go_enter Try.func132, Try.ntmps132
  go_wp2
  go_loop [5, 14] (fun q i => ∃ j : Nat, j ≤ pits.length ∧ i = .int .i64 j ∧ q = .int .i64 (hashGo (pits.take j) (pl + 1))) (fun _ i => pits.length - (intOf i).toNat)
  case atStart => exact ⟨0, Nat.zero_le _, rfl, rfl⟩
  case round =>
    obtain ⟨j, hj, rfl, rfl⟩ := hrel
    obtain ⟨k0, k1⟩ := hashGo_bd (pits.take j) (pl + 1) (by omega) (by omega) (fun x hx => (HB.out x (List.mem_of_mem_take hx)).1)
    by_cases hlt : j < pits.length
    · obtain ⟨b, o, ha, hb, hcs⟩ := Ints.open HH.out (by omega)
      have hc := hcs j hlt
      have HS := Lib.hid (hashGo_take pits j (pl + 1) hlt)
      obtain ⟨x0, x1⟩ := HB.out pits[j] (List.getElem_mem hlt)
      obtain ⟨x, hx⟩ : ∃ x, x = pits[j] := ⟨_, rfl⟩
      obtain ⟨K, hK⟩ : ∃ K, K = hashGo (pits.take j) (pl + 1) := ⟨_, rfl⟩
      rw [← hx] at hc HS x0 x1
      rw [← hK] at HS k0 k1 ⊢
      subst ha
      have hjI : (j : Int) < (pits.length : Int) := by omega
      have ht : (31 * K + x).tmod 1000003 = (31 * K + x) % 1000003 := Int.tmod_eq_emod_of_nonneg (by omega)
      have hr0 : 0 ≤ (31 * K + x) % 1000003 := by omega
      have hr1 : (31 * K + x) % 1000003 < 1000003 := by omega
      clear hcs hx hK
      go_wp2
      go_round
      case rel => exact ⟨j + 1, by omega, by go_num, by rw [HS.out]⟩
      case measure => simp [intOf]; omega
    · obtain rfl : j = pits.length := by omega
      rw [List.take_length] at k0 k1 ⊢
      have HP : Hid (hashP pits pl n = hashGo pits (pl + 1) % (n : Int)) := rfl
      obtain ⟨K, hK⟩ : ∃ K, K = hashGo pits (pl + 1) := ⟨_, rfl⟩
      rw [← hK] at HP k0 k1 ⊢
      have ht : K.tmod (n : Int) = K % (n : Int) := Int.tmod_eq_emod_of_nonneg k0
      clear hK
      go_wp2
      go_ret
      exact ⟨by rw [HP.out]; rfl, HF.out⟩

end Go.Proofs.Ytbjgigdkbjabaaa
