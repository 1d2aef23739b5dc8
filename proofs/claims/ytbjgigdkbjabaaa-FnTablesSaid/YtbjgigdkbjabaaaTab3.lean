/- Tab3: rows of a table: the program's function. Each contract holds for every argument, under the premises that it states. -/
import Derived.Test.YtbjgigdkbjabaaaTab2
namespace Go.Proofs.Ytbjgigdkbjabaaa
set_option linter.unusedSimpArgs false
set_option linter.unusedVariables false
set_option linter.unnecessarySimpa false
open Go.RowKit Go.ChangeShapes Go.WideShapes Go.ChangeAt Go.Joins

@[reducible] def capR (ob : Nat) : Array Value := #[.pointer (some ⟨ob, 0, none⟩)]
/-- rows of the call's own, from lo to hi, and the box that holds their slice -/
structure RsSt (w : World) (lo hi ob g c : Nat) (l : List Rw) : Prop where
  c0 : w.cell? ⟨ob, 0, none⟩ = some (.slice (some ⟨g, 0, none⟩) l.length c)
  pc : PcsP lo hi (rwRL.pcs (some ⟨g, 0, none⟩) c l) w
  ne : ¬ ob = g
theorem RsSt.below {w w' : World} {lo hi ob g c : Nat} {l : List Rw} (h : RsSt w lo hi ob g c l) (hb : Below w.heap.size w w') : RsSt w' lo hi ob g c l :=
  ⟨(hb.cell (show (Addr.mk ob 0 none).block < _ from World.block_lt_of_cell? w _ h.c0)).trans h.c0, h.pc.below hb, h.ne⟩
theorem RsSt.field {w : World} {lo hi ob g c : Nat} {l : List Rw} (h : RsSt w lo hi ob g c l) {j i : Nat} {x x' : Rw} {v : Value} (hx : l[j]? = some x) (hi' : i < 6) (hf : rwRL.f x' = (rwRL.f x).set i v) :
    RsSt (w.setCell ⟨g, j * 6 + i, none⟩ v) lo hi ob g c (l.set j x') ∧ Chg lo hi w (w.setCell ⟨g, j * 6 + i, none⟩ v) := by
  obtain ⟨h1, h2⟩ := RL.setField h.pc hx hi' hf rfl
  exact ⟨⟨(cell_other h.ne).trans (by rw [List.length_set]; exact h.c0), h1, h.ne⟩, h2⟩

set_option maxRecDepth 100000 in
set_option maxHeartbeats 8000000 in
theorem addC_c (lo hi ob g c k : Nat) (l : List Rw) (x : Rw) (s : Int) (w : World) (h : RsSt w lo hi ob g c l) (hx : l[k]? = some x) (hs : 0 ≤ s ∧ s ≤ 2) (hp : 0 ≤ x.points ∧ x.points ≤ 1000) (hw' : 0 ≤ x.wins ∧ x.wins ≤ 1000) :
    Calls Try.prog 137 (#[.int .i64 k, .int .i64 s] ++ capR ob) w fun e w' => e = .returned (.tuple #[]) ∧ RsSt w' lo hi ob g c (l.set k (addRw x s)) ∧ Chg lo hi w w' := by
  have hkl : k < l.length := (List.getElem?_eq_some_iff.1 hx).1
  have hkI : (k : Int) < (l.length : Int) := by omega
  have c0 := h.c0
  obtain ⟨q1, f1⟩ : _ ∧ _ := RL.cell h.pc hx (i := 1) (by decide) rfl
  obtain ⟨q2, f2⟩ : _ ∧ _ := RL.cell h.pc hx (i := 2) (by decide) rfl
  simp only [show rwRL.n = 6 from rfl] at q1 q2 f1 f2
  have gf := fun o => (RL.main h.pc).frozenAt o
  have hne := h.ne
  have hw1 : IntKind.i64.wrap (x.points + s) = x.points + s := IntWalk.i64_in _ (by omega)
  have hw2 : IntKind.i64.wrap (x.wins + 1) = x.wins + 1 := IntWalk.i64_in _ (by omega)
  obtain ⟨h1, g1⟩ := h.field (i := 1) (v := .int .i64 (x.points + s)) (x' := ⟨x.player, x.points + s, x.wins, x.games, x.against, x.strength⟩) hx (by decide) rfl
  have hx1 : (l.set k ⟨x.player, x.points + s, x.wins, x.games, x.against, x.strength⟩)[k]? = some ⟨x.player, x.points + s, x.wins, x.games, x.against, x.strength⟩ := List.getElem?_set_self hkl
  obtain ⟨h2, g2⟩ := h1.field (i := 2) (v := .int .i64 (x.wins + 1)) (x' := ⟨x.player, x.points + s, x.wins + 1, x.games, x.against, x.strength⟩) hx1 (by decide) rfl
  rw [List.set_set] at h2
  have hgl : g < w.heap.size := World.block_lt_of_cell? w _ q1
  have H1 := Lib.hid (And.intro h1 g1)
  have H2 := Lib.hid (And.intro h2 (g1.trans g2))
  clear h h1 h2 g1 g2 hx hx1 hp hw' f1 f2
  show Calls Try.prog 137 #[.int .i64 k, .int .i64 s, .pointer (some ⟨ob, 0, none⟩)] w _
  by_cases h2 : s = 2
  · subst h2
    have HE : Hid (addRw x 2 = ⟨x.player, x.points + 2, x.wins + 1, x.games, x.against, x.strength⟩) := rfl
    go_enter Try.func137, Try.ntmps137
    go_wp2
    go_end0
    rw [HE.out]
    exact ⟨rfl, H2.out⟩
  · have h3 : (s == 2) = false := by simpa using h2
    have HE : Hid (addRw x s = ⟨x.player, x.points + s, x.wins, x.games, x.against, x.strength⟩) := by unfold Hid addRw; rw [if_neg h2]
    clear h2
    go_enter Try.func137, Try.ntmps137
    go_wp2
    go_end0
    rw [HE.out]
    exact ⟨rfl, H1.out⟩

set_option maxRecDepth 100000 in
set_option maxHeartbeats 8000000 in
theorem playC_c (lo hi ob g c k o : Nat) (l : List Rw) (x y : Rw) (s : Int) (w : World) (h : RsSt w lo hi ob g c l) (hx : l[k]? = some x) (hy : l[o]? = some y) (hko : ¬ k = o) (hs : 0 ≤ s ∧ s ≤ 2) (hp : 0 ≤ y.points ∧ y.points ≤ 1000) (hgm : 0 ≤ x.games ∧ x.games ≤ 1000) (hag : 0 ≤ x.against ∧ x.against ≤ 1000000) (hst : 0 ≤ x.strength ∧ x.strength ≤ 1000000) :
    Calls Try.prog 138 (#[.int .i64 k, .int .i64 o, .int .i64 s] ++ capR ob) w fun e w' => e = .returned (.tuple #[]) ∧ RsSt w' lo hi ob g c (l.set k (playRw x y.points s)) ∧ Chg lo hi w w' := by
  have hkl : k < l.length := (List.getElem?_eq_some_iff.1 hx).1
  have hol : o < l.length := (List.getElem?_eq_some_iff.1 hy).1
  have hkI : (k : Int) < (l.length : Int) := by omega
  have hoI : (o : Int) < (l.length : Int) := by omega
  have hps : 0 ≤ y.points * s ∧ y.points * s ≤ 2000 := by
    refine ⟨Int.mul_nonneg hp.1 hs.1, ?_⟩
    have : y.points * s ≤ 1000 * 2 := Int.mul_le_mul hp.2 hs.2 hs.1 (by omega)
    omega
  have hne := h.ne
  obtain ⟨P, hP⟩ : ∃ P, P = y.points := ⟨_, rfl⟩
  obtain ⟨M, hM⟩ : ∃ M, M = y.points * s := ⟨_, rfl⟩
  have hw1 : IntKind.i64.wrap (x.games + 1) = x.games + 1 := IntWalk.i64_in _ (by omega)
  have hw2 : IntKind.i64.wrap (x.against + P) = x.against + P := IntWalk.i64_in _ (by omega)
  have hw3 : IntKind.i64.wrap (P * s) = M := by rw [hM, hP]; exact IntWalk.i64_in _ (by omega)
  have hw4 : IntKind.i64.wrap (x.strength + M) = x.strength + M := IntWalk.i64_in _ (by omega)
  obtain ⟨h1, g1⟩ := h.field (i := 3) (v := .int .i64 (x.games + 1)) (x' := ⟨x.player, x.points, x.wins, x.games + 1, x.against, x.strength⟩) hx (by decide) rfl
  have hx1 : (l.set k ⟨x.player, x.points, x.wins, x.games + 1, x.against, x.strength⟩)[k]? = some ⟨x.player, x.points, x.wins, x.games + 1, x.against, x.strength⟩ := List.getElem?_set_self hkl
  have hy1 : (l.set k ⟨x.player, x.points, x.wins, x.games + 1, x.against, x.strength⟩)[o]? = some y := by rw [List.getElem?_set_ne hko]; exact hy
  obtain ⟨h2, g2⟩ := h1.field (i := 4) (v := .int .i64 (x.against + P)) (x' := ⟨x.player, x.points, x.wins, x.games + 1, x.against + P, x.strength⟩) hx1 (by decide) rfl
  rw [List.set_set] at h2
  have hx2 : (l.set k ⟨x.player, x.points, x.wins, x.games + 1, x.against + P, x.strength⟩)[k]? = some ⟨x.player, x.points, x.wins, x.games + 1, x.against + P, x.strength⟩ := List.getElem?_set_self hkl
  have hy2 : (l.set k ⟨x.player, x.points, x.wins, x.games + 1, x.against + P, x.strength⟩)[o]? = some y := by rw [List.getElem?_set_ne hko]; exact hy
  have HE : Hid (playRw x y.points s = ⟨x.player, x.points, x.wins, x.games + 1, x.against + P, x.strength + M⟩) := by unfold Hid playRw; rw [hP, hM]
  have H1 := Lib.hid h1
  have HG1 := Lib.hid g1
  have H2 := Lib.hid h2
  have HG2 := Lib.hid g2
  have c0 := h.c0
  obtain ⟨q3, f3⟩ : _ ∧ _ := RL.cell h.pc hx (i := 3) (by decide) rfl
  simp only [show rwRL.n = 6 from rfl] at q3 f3
  have gf := fun o => (RL.main h.pc).frozenAt o
  have hgl : g < w.heap.size := World.block_lt_of_cell? w _ q3
  obtain ⟨W1, hW1⟩ : ∃ W, W = w.setCell ⟨g, k * 6 + 3, none⟩ (.int .i64 (x.games + 1)) := ⟨_, rfl⟩
  rw [← hW1] at H1 H2 HG1 HG2
  have HW1 := Lib.hid hW1
  clear h1 h2 g1 g2 h hx hy hW1
  show Calls Try.prog 138 #[.int .i64 k, .int .i64 o, .int .i64 s, .pointer (some ⟨ob, 0, none⟩)] w _
  go_enter Try.func138, Try.ntmps138
  go_upto_region 1 with fail
  rw [← HW1.out]
  clear q3 f3 gf c0 HW1
  have c0 : W1.cell? ⟨ob, 0, none⟩ = some (.slice (some ⟨g, 0, none⟩) l.length c) := by have := H1.out.c0; rw [List.length_set] at this; exact this
  obtain ⟨q4, f4⟩ : _ ∧ _ := RL.cell H1.out.pc hx1 (i := 4) (by decide) rfl
  obtain ⟨p1, _⟩ : _ ∧ _ := RL.cell H1.out.pc hy1 (i := 1) (by decide) rfl
  simp only [show rwRL.n = 6 from rfl] at q4 f4 p1
  rw [← hP] at p1
  have gf := fun o => (RL.main H1.out.pc).frozenAt o
  have hgl : g < W1.heap.size := World.block_lt_of_cell? W1 _ q4
  have HHP := Lib.hid hP
  clear hP hM hps hp hag hst hgm
  obtain ⟨W2, hW2⟩ : ∃ W, W = (W1.setCell ⟨g, k * 6 + 4, none⟩ (.int .i64 (x.against + P))).drew := ⟨_, rfl⟩
  have h2 : RsSt W2 lo hi ob g c (l.set k ⟨x.player, x.points, x.wins, x.games + 1, x.against + P, x.strength⟩) := by rw [hW2]; exact H2.out.below (Below.refl _ _).drew
  have g2 : Chg lo hi w W2 := by rw [hW2]; exact (HG1.out.trans HG2.out).trans (Chg.ofBelow (Below.refl _ _).drew)
  have HW2 := Lib.hid hW2
  clear hW2
  go_region
  go_upto_region 2 with fail
  rw [← HW2.out]
  clear HW2 q4 f4 p1 gf c0
  have c0 : W2.cell? ⟨ob, 0, none⟩ = some (.slice (some ⟨g, 0, none⟩) l.length c) := by have := h2.c0; rw [List.length_set] at this; exact this
  obtain ⟨q5, f5⟩ : _ ∧ _ := RL.cell h2.pc hx2 (i := 5) (by decide) rfl
  obtain ⟨p1, _⟩ : _ ∧ _ := RL.cell h2.pc hy2 (i := 1) (by decide) rfl
  simp only [show rwRL.n = 6 from rfl] at q5 f5 p1
  rw [← HHP.out] at p1
  have gf := fun o => (RL.main h2.pc).frozenAt o
  have hgl : g < W2.heap.size := World.block_lt_of_cell? W2 _ q5
  obtain ⟨h3, g3⟩ := h2.field (i := 5) (v := .int .i64 (x.strength + M)) (x' := ⟨x.player, x.points, x.wins, x.games + 1, x.against + P, x.strength + M⟩) hx2 (by decide) rfl
  rw [List.set_set] at h3
  have H3 := Lib.hid (And.intro (h3.below (Below.refl _ _).drew) ((g2.trans g3).trans (Chg.ofBelow (Below.refl _ _).drew)))
  clear h3 g3 h2 g2 hx1 hx2 hy1 hy2
  go_region
  go_wp2
  go_end0
  rw [HE.out]
  exact ⟨rfl, H3.out⟩

/-- rows out of a call -/
def RwRes (w : World) (xs : List Rw) (e : Ending) (w' : World) : Prop := ∃ (a : Option Addr) (c : Nat), e = .returned (.slice a xs.length c) ∧ Pcs w' w.heap.size (rwRL.pcs a c xs) ∧ Below w.heap.size w w'
def initAt (n k : Nat) : List Rw := (List.range n).map fun (i : Nat) => if i < k then rowOf [] [] [] [] (i : Int) else Rw.nil
theorem initAt_len (n k : Nat) : (initAt n k).length = n := by simp [initAt]
theorem initAt_get {n k i : Nat} (hi : i < n) : (initAt n k)[i]? = some (if i < k then rowOf [] [] [] [] (i : Int) else Rw.nil) := by
  unfold initAt
  rw [List.getElem?_map, List.getElem?_range hi]
  rfl
theorem initAt_zero (n : Nat) : initAt n 0 = List.replicate n Rw.nil := by
  apply List.ext_getElem?
  intro i
  by_cases hi : i < n
  · rw [initAt_get hi, List.getElem?_replicate, if_pos hi]
    simp
  · rw [List.getElem?_eq_none (by rw [initAt_len]; omega), List.getElem?_eq_none (by simp; omega)]
theorem initAt_set {n k : Nat} (hk : k < n) : (initAt n k).set k ⟨(k : Int), 0, 0, 0, 0, 0⟩ = initAt n (k + 1) := by
  apply List.ext_getElem?
  intro i
  by_cases hi : i < n
  · rw [set_get_eq, initAt_len, initAt_get hi, initAt_get hi]
    by_cases e : k = i
    · subst e
      rw [if_pos ⟨rfl, hk⟩, if_pos (by omega)]
      rfl
    · rw [if_neg (by omega)]
      by_cases h2 : i < k
      · rw [if_pos h2, if_pos (by omega)]
      · rw [if_neg h2, if_neg (by omega)]
  · rw [List.getElem?_eq_none (by rw [List.length_set, initAt_len]; omega), List.getElem?_eq_none (by rw [initAt_len]; omega)]
theorem initAt_all (n : Nat) (all : List Mt) : initAt n n = rowsAt n all [] [] [] := by
  apply rows_ext (initAt_len n n)
  intro i hi
  rw [initAt_get hi, if_pos hi]
  rfl
set_option maxRecDepth 100000 in
set_option maxHeartbeats 16000000 in
theorem rowsOf_c (n : Nat) (l : List Mt) (a : Option Addr) (c : Nat) (w : World) (h : Row w a (flat mtRL.f l)) (hn : 2 ≤ n ∧ n ≤ 12) (hl : l.length ≤ 150) (hok : ∀ m ∈ l, m.ok (n : Int) = true) :
    Calls Try.prog 91 #[.int .i64 (n : Int), .slice a l.length c] w (RwRes w (rowsP n l)) := by
  have hmf : ∀ (fn : Fn) (first cap : Array Value) (w : World), (Instr.makeFunc fn first cap).run Try.prog w = .ok (.func fn first cap) w := fun _ _ _ _ => rfl
  obtain ⟨i0, hi, hz0, hz1, hz2⟩ := info_partsRw infoRw
  have HH := Lib.hid h
  have HOK := Lib.hid hok
  obtain ⟨hn0, hn1⟩ := hn
  clear h hok
  go_enter Try.func91, Try.ntmps91
  go_wp2_with (at_make; refine wpList_make_full _ rfl _ _ 65 rfl w.heap.size 84 i0 (.agg #[.int .i64 0, .int .i64 0, .int .i64 0, .int .i64 0, .int .i64 0, .int .i64 0]) 6 Try.underlying65 hi hz0 hz1 _ _ _ _ n rfl rfl rfl rfl ?c1 ?c2 ?c3 ?_)
  case c1 => rw [hz2]; omega
  case c2 => unfold maxLen; omega
  case c3 => exact Nat.le_refl _
  intro w1 hown hgr
  have hb1 : Below w.heap.size w w1 := (Below.refl _ _).grown hgr (Nat.le_refl _) (fun k h => by cases h)
  have hmz : (madeCells #[.int .i64 0, .int .i64 0, .int .i64 0, .int .i64 0, .int .i64 0, .int .i64 0] (n * 6)).toList = flat rwRL.f (List.replicate n Rw.nil) := made_flat rwRL.hf (by decide) #[.int .i64 0, .int .i64 0, .int .i64 0, .int .i64 0, .int .i64 0, .int .i64 0] Rw.nil rfl n
  rw [hmz, ← initAt_zero] at hown
  have hown' : w1.ownsRow w.heap.size 84 6 (.slice (some ⟨w.heap.size, 0, none⟩) (initAt n 0).length n) (initAt n 0).length (flat rwRL.f (initAt n 0)) := by rw [initAt_len]; exact hown
  obtain ⟨ob, hob⟩ : ∃ ob, ob = w1.heap.size := ⟨_, rfl⟩
  have hgl : w.heap.size < w1.heap.size := (hown.lt _ rfl).2
  have FB := (Fr.start w1).alloc #[.slice (some ⟨w.heap.size, 0, none⟩) n n] 65
  obtain ⟨W0, hW0⟩ : ∃ W, W = w1.alloc (.cells #[.slice (some ⟨w.heap.size, 0, none⟩) n n] 65) := ⟨_, rfl⟩
  rw [← hW0] at FB
  have hst0 : RsSt W0 w.heap.size w1.heap.size ob w.heap.size n (initAt n 0) := by
    refine ⟨?_, ?_, by omega⟩
    · rw [initAt_len, hob]; exact FB.at 0 rfl 0 _ rfl
    · exact (rw_pcs hown').mk'.below FB.below
  have HST0 := Lib.hid hst0
  have HB0 : Hid (Below w.heap.size w W0) := below_next hb1 FB.below
  have HOB : Hid (ob = w1.heap.size ∧ w.heap.size < w1.heap.size ∧ w1.heap.size < W0.heap.size) := ⟨hob, hgl, FB.le 0 rfl⟩
  have HW0 := Lib.hid hW0
  have HOBE := Lib.hid hob
  clear hz0 hz1 hz2 hgr hown hown' hb1 hi hmz FB hst0 hW0 hgl hob
  go_upto_region 2 with fail
  rw [← HW0.out, ← HOBE.out]
  have x0 : W0.cell? ⟨ob, 0, none⟩ = some (.slice (some ⟨w.heap.size, 0, none⟩) n n) := by have := HST0.out.c0; rw [initAt_len] at this; exact this
  clear HW0 HOBE
  go_wp2_with fail
  clear x0
  go_loopw [6, 17] (fun j i wr => ∃ (k : Nat), i = .int .i64 k ∧ k ≤ n ∧ Hid (RsSt wr w.heap.size w1.heap.size ob w.heap.size n (initAt n k)) ∧ Hid (Below w.heap.size w wr)) (fun _ i _ => n - (intOf i).toNat)
  case atStart => exact ⟨0, rfl, Nat.zero_le _, HST0, HB0⟩
  case round =>
    clear HST0 HB0
    obtain ⟨k, rfl, hk, HST, HB⟩ := hrel
    have x0 : wr.cell? ⟨ob, 0, none⟩ = some (.slice (some ⟨w.heap.size, 0, none⟩) n n) := by have := HST.out.c0; rw [initAt_len] at this; exact this
    by_cases hlt : k < n
    · have hkI : (k : Int) < (n : Int) := by omega
      have hx := initAt_get (n := n) (k := k) hlt
      rw [if_neg (Nat.lt_irrefl k)] at hx
      obtain ⟨q0, f0⟩ : _ ∧ _ := RL.cell HST.out.pc hx (i := 0) (by decide) rfl
      simp only [show rwRL.n = 6 from rfl, Nat.add_zero] at q0 f0
      obtain ⟨h1, g1⟩ := HST.out.field (i := 0) (v := .int .i64 (k : Int)) (x' := ⟨(k : Int), 0, 0, 0, 0, 0⟩) hx (by decide) rfl
      rw [initAt_set hlt] at h1
      simp only [Nat.add_zero] at h1 g1
      have H1 := Lib.hid h1
      have HB1 := Lib.hid (g1.below HB.out (Nat.le_refl _))
      clear h1 g1 hx
      go_wp2
      go_roundw
      case rel => exact ⟨k + 1, by go_num, by omega, H1, HB1⟩
      case measure => simp [intOf]; omega
    · have hkI : ¬ (k : Int) < (n : Int) := by omega
      have hnk : n = k := by omega
      subst hnk
      have hst := HST.out
      rw [initAt_all n l] at hst
      have HST1 := Lib.hid hst
      clear hst HST x0
      go_wp2_with fail
      go_loopw [29] (fun i wr => ∃ (k : Nat), i = .int .i64 k ∧ k ≤ l.length ∧ Hid (RsSt wr w.heap.size w1.heap.size ob w.heap.size n (rowsAt n l (l.take k) [] [])) ∧ Hid (Below w.heap.size w wr ∧ ob < wr.heap.size)) (fun i _ => l.length - (intOf i).toNat)
      case atStart => exact ⟨0, rfl, Nat.zero_le _, HST1, Lib.hid ⟨HB.out, World.block_lt_of_cell? _ _ HST1.out.c0⟩⟩
      case round =>
        clear HST1 HB hk hlt hkI
        obtain ⟨j, rfl, hj, HST, HB⟩ := hrel
        by_cases hlt : j < l.length
        · have hkI : (j : Int) < (l.length : Int) := by omega
          obtain ⟨b, off, ha, hb, s0, s1, s2, s3⟩ := mt_at (HH.out.below HB.out.1 (Nat.le_refl _)) (k := j) (x := l[j]) (by simp [hlt])
          have hv := HOK.out l[j] (List.getElem_mem hlt)
          have htk : l.take (j + 1) = l.take j ++ [l[j]] := List.take_succ_eq_append_getElem hlt
          obtain ⟨x, hx⟩ : ∃ x, x = l[j] := ⟨_, rfl⟩
          rw [← hx] at s0 s1 s2 s3 hv htk
          have HTK := Lib.hid htk
          clear hx htk
          obtain ⟨xa, xb, xs, xf⟩ := x
          obtain ⟨⟨v1, v2⟩, ⟨v3, v4⟩, v5, v6, v7⟩ := Mt.ok_parts hv
          dsimp only at s0 s1 s2 s3 v1 v2 v3 v4 v5 v6 v7
          obtain ⟨p, rfl⟩ : ∃ p : Nat, xa = (p : Int) := ⟨xa.toNat, by omega⟩
          obtain ⟨q, rfl⟩ : ∃ q : Nat, xb = (q : Int) := ⟨xb.toNat, by omega⟩
          have HV := Lib.hid hv
          have HA := Lib.hid ha
          subst ha
          have HBD := Lib.hid (fun z => row_bd (n := (n : Int)) (all := l) (l := l.take j) (k := []) (j := []) HOK.out (fun m hm => HOK.out m (List.mem_of_mem_take hm)) (fun m hm => by cases hm) (fun m hm => by cases hm) hl (by simp; omega) (by simp) (by simp) z)
          have FV := (Fr.from HB.out.1).alloc #[.int .i64 (p : Int), .int .i64 (q : Int), .int .i64 xs, .bool xf] 86
          obtain ⟨V, hV⟩ : ∃ V, V = wr.alloc (.cells #[.int .i64 (p : Int), .int .i64 (q : Int), .int .i64 xs, .bool xf] 86) := ⟨_, rfl⟩
          rw [← hV] at FV
          have hbV : Below wr.heap.size wr V := by rw [hV]; exact below_alloc1 _ _
          obtain ⟨t0, t1, t2, t3⟩ := (⟨FV.at 0 rfl 0 _ rfl, FV.at 0 rfl 1 _ rfl, FV.at 0 rfl 2 _ rfl, FV.at 0 rfl 3 _ rfl⟩ : _ ∧ _ ∧ _ ∧ _)
          have HFV := Lib.hid FV
          have HV' := Lib.hid hV
          have hp' : p < n := by omega
          have hq' : q < n := by omega
          have hpq : ¬ p = q := by omega
          have hstV := HST.out.below hbV
          have HC1 := Lib.hid (addC_c w.heap.size w1.heap.size ob w.heap.size n p _ _ xs V hstV (rowsAt_get hp') ⟨v6, v7⟩ (by have := (HBD.out p).1; omega) (by have := (HBD.out p).2.1; omega))
          clear hV FV hstV hv
          go_upto_region 11 with fail
          rw [← HV'.out]
          go_wp2_with fail
          refine HC1.out.mono ?_
          rintro e w3 ⟨rfl, hst3, hc3⟩
          have hoo := HOB.out
          have hobw := HB.out.2
          have hbv3 := HFV.out.le 0 rfl
          have hF3 := HFV.out.chg0 hc3 (Nat.le_refl _) (by intro r hr; simp at hr; subst hr; right; simp; omega)
          have hx3 : ((rowsAt n l (l.take j) [] []).set p (addRw (rowOf l (l.take j) [] [] (p : Int)) xs))[q]? = some (rowOf l (l.take j) [] [] (q : Int)) := by rw [List.getElem?_set_ne hpq]; exact rowsAt_get hq'
          have hw2 : IntKind.i64.wrap (2 - xs) = 2 - xs := IntWalk.i64_in _ (by omega)
          have HC2 := Lib.hid (addC_c w.heap.size w1.heap.size ob w.heap.size n q _ _ (2 - xs) w3 hst3 hx3 (by omega) (by have := (HBD.out q).1; omega) (by have := (HBD.out q).2.1; omega))
          obtain ⟨t0, t1, t2, t3⟩ := (⟨hF3.at 0 rfl 0 _ rfl, hF3.at 0 rfl 1 _ rfl, hF3.at 0 rfl 2 _ rfl, hF3.at 0 rfl 3 _ rfl⟩ : _ ∧ _ ∧ _ ∧ _)
          have HF3 := Lib.hid hF3.below
          clear hst3 hc3 hF3 HC1 hx3 hbV hoo hobw hbv3
          go_wp2_with fail
          refine HC2.out.mono ?_
          rintro e w4 ⟨rfl, hst4, hc4⟩
          have hfin := add_two (n := n) (all := l) (l := l.take j) (k := []) (j := []) (m := ⟨(p : Int), (q : Int), xs, xf⟩) HV.out (p := p) (q := q) rfl rfl
          rw [hfin, ← HTK.out] at hst4
          have H4 := Lib.hid hst4
          have HB4 : Hid (Below w.heap.size w w4 ∧ ob < w4.heap.size) := ⟨hc4.below HF3.out (Nat.le_refl _), World.block_lt_of_cell? _ _ hst4.c0⟩
          clear hst4 hc4 hfin HC2 t0 t1 t2 t3 hw2 v1 v2 v3 v4 v5 v6 v7
          go_wp2
          go_roundw
          case rel => exact ⟨j + 1, by go_num, by omega, H4, HB4⟩
          case measure => simp [intOf]; omega
        · have hkI : ¬ (j : Int) < (l.length : Int) := by omega
          have hst := HST.out
          rw [List.take_of_length_le (by omega)] at hst
          have HST2 := Lib.hid hst
          clear hst HST
          go_wp2_with fail
          go_loopw [50] (fun i wr => ∃ (k : Nat), i = .int .i64 k ∧ k ≤ l.length ∧ Hid (RsSt wr w.heap.size w1.heap.size ob w.heap.size n (rowsAt n l l (l.take k) (l.take k))) ∧ Hid (Below w.heap.size w wr ∧ ob < wr.heap.size)) (fun i _ => l.length - (intOf i).toNat)
          case atStart => exact ⟨0, rfl, Nat.zero_le _, HST2, HB⟩
          case round =>
            clear HST2 HB hj hlt hkI
            obtain ⟨j, rfl, hj, HST, HB⟩ := hrel
            by_cases hlt : j < l.length
            · have hkI : (j : Int) < (l.length : Int) := by omega
              obtain ⟨b, off, ha, hb, s0, s1, s2, s3⟩ := mt_at (HH.out.below HB.out.1 (Nat.le_refl _)) (k := j) (x := l[j]) (by simp [hlt])
              have hv := HOK.out l[j] (List.getElem_mem hlt)
              have htk : l.take (j + 1) = l.take j ++ [l[j]] := List.take_succ_eq_append_getElem hlt
              obtain ⟨x, hx⟩ : ∃ x, x = l[j] := ⟨_, rfl⟩
              rw [← hx] at s0 s1 s2 s3 hv htk
              have HTK := Lib.hid htk
              clear hx htk
              obtain ⟨xa, xb, xs, xf⟩ := x
              obtain ⟨⟨v1, v2⟩, ⟨v3, v4⟩, v5, v6, v7⟩ := Mt.ok_parts hv
              dsimp only at s0 s1 s2 s3 v1 v2 v3 v4 v5 v6 v7
              obtain ⟨p, rfl⟩ : ∃ p : Nat, xa = (p : Int) := ⟨xa.toNat, by omega⟩
              obtain ⟨q, rfl⟩ : ∃ q : Nat, xb = (q : Int) := ⟨xb.toNat, by omega⟩
              have HV := Lib.hid hv
              subst ha
              have HBD := Lib.hid (fun z => row_bd (n := (n : Int)) (all := l) (l := l) (k := l.take j) (j := l.take j) HOK.out HOK.out (fun m hm => HOK.out m (List.mem_of_mem_take hm)) (fun m hm => HOK.out m (List.mem_of_mem_take hm)) hl hl (by simp; omega) (by simp; omega) z)
              have FV := (Fr.from HB.out.1).alloc #[.int .i64 (p : Int), .int .i64 (q : Int), .int .i64 xs, .bool xf] 86
              obtain ⟨V, hV⟩ : ∃ V, V = wr.alloc (.cells #[.int .i64 (p : Int), .int .i64 (q : Int), .int .i64 xs, .bool xf] 86) := ⟨_, rfl⟩
              rw [← hV] at FV
              have hbV : Below wr.heap.size wr V := by rw [hV]; exact below_alloc1 _ _
              obtain ⟨t0, t1, t2, t3⟩ := (⟨FV.at 0 rfl 0 _ rfl, FV.at 0 rfl 1 _ rfl, FV.at 0 rfl 2 _ rfl, FV.at 0 rfl 3 _ rfl⟩ : _ ∧ _ ∧ _ ∧ _)
              have HFV := Lib.hid FV
              have HV' := Lib.hid hV
              have hp' : p < n := by omega
              have hq' : q < n := by omega
              have hpq : ¬ p = q := by omega
              have HSTV := Lib.hid (HST.out.below hbV)
              have HHB : Hid (Below w.heap.size w V ∧ ob < V.heap.size) := ⟨FV.below, by have := hbV.size; have := HB.out.2; omega⟩
              clear hV FV hv hbV
              cases xf
              case true =>
                have H4 : Hid (RsSt V w.heap.size w1.heap.size ob w.heap.size n (rowsAt n l l (l.take (j + 1)) (l.take (j + 1)))) := by
                  unfold Hid
                  rw [HTK.out, ← play_not (m := ⟨(p : Int), (q : Int), xs, true⟩) rfl]
                  exact HSTV.out
                clear v1 v2 v3 v4 v5 v6 v7 hp' hq' hpq
                go_upto_region 18 with fail
                rw [← HV'.out]
                go_wp2
                go_roundw
                case rel => exact ⟨j + 1, by go_num, by omega, H4, HHB⟩
                case measure => simp [intOf]; omega
              have HC1 := Lib.hid (playC_c w.heap.size w1.heap.size ob w.heap.size n p q _ _ _ xs V HSTV.out (rowsAt_get hp') (rowsAt_get hq') hpq ⟨v6, v7⟩ (by have := (HBD.out q).1; omega) (by have := (HBD.out p).2.2.1; omega) (by have := (HBD.out p).2.2.2.1; omega) (by have := (HBD.out p).2.2.2.2; omega))
              go_upto_region 18 with fail
              rw [← HV'.out]
              go_wp2_with fail
              refine HC1.out.mono ?_
              rintro e w3 ⟨rfl, hst3, hc3⟩
              have hoo := HOB.out
              have hobw := HB.out.2
              have hbv3 := HFV.out.le 0 rfl
              have hF3 := HFV.out.chg0 hc3 (Nat.le_refl _) (by intro r hr; simp at hr; subst hr; right; simp; omega)
              have hx3 : ((rowsAt n l l (l.take j) (l.take j)).set p (playRw (rowOf l l (l.take j) (l.take j) (p : Int)) (rowOf l l (l.take j) (l.take j) (q : Int)).points xs))[q]? = some (rowOf l l (l.take j) (l.take j) (q : Int)) := by rw [List.getElem?_set_ne hpq]; exact rowsAt_get hq'
              have hy3 : ((rowsAt n l l (l.take j) (l.take j)).set p (playRw (rowOf l l (l.take j) (l.take j) (p : Int)) (rowOf l l (l.take j) (l.take j) (q : Int)).points xs))[p]? = some (playRw (rowOf l l (l.take j) (l.take j) (p : Int)) (rowOf l l (l.take j) (l.take j) (q : Int)).points xs) := List.getElem?_set_self (by rw [rowsAt_len]; exact hp')
              have hw2 : IntKind.i64.wrap (2 - xs) = 2 - xs := IntWalk.i64_in _ (by omega)
              have HC2 := Lib.hid (playC_c w.heap.size w1.heap.size ob w.heap.size n q p _ _ _ (2 - xs) w3 hst3 hx3 hy3 (fun e => hpq e.symm) (by omega) (show 0 ≤ (rowOf l l (l.take j) (l.take j) (p : Int)).points ∧ (rowOf l l (l.take j) (l.take j) (p : Int)).points ≤ 1000 by have := (HBD.out p).1; omega) (by have := (HBD.out q).2.2.1; omega) (by have := (HBD.out q).2.2.2.1; omega) (by have := (HBD.out q).2.2.2.2; omega))
              obtain ⟨t0, t1, t2, t3⟩ := (⟨hF3.at 0 rfl 0 _ rfl, hF3.at 0 rfl 1 _ rfl, hF3.at 0 rfl 2 _ rfl, hF3.at 0 rfl 3 _ rfl⟩ : _ ∧ _ ∧ _ ∧ _)
              have HF3 := Lib.hid hF3.below
              clear hst3 hc3 hF3 HC1 hx3 hy3 hoo hobw hbv3
              go_wp2_with fail
              refine HC2.out.mono ?_
              rintro e w4 ⟨rfl, hst4, hc4⟩
              have hfin := play_two (n := n) (all := l) (l := l) (k := l.take j) (j := l.take j) (m := ⟨(p : Int), (q : Int), xs, false⟩) HV.out rfl (p := p) (q := q) rfl rfl
              have H4 : Hid (RsSt w4 w.heap.size w1.heap.size ob w.heap.size n (rowsAt n l l (l.take (j + 1)) (l.take (j + 1)))) := by
                unfold Hid
                rw [HTK.out, ← hfin]
                exact hst4
              have HB4 : Hid (Below w.heap.size w w4 ∧ ob < w4.heap.size) := ⟨hc4.below HF3.out (Nat.le_refl _), World.block_lt_of_cell? _ _ hst4.c0⟩
              clear hst4 hc4 hfin HC2 t0 t1 t2 t3 hw2 v1 v2 v3 v4 v5 v6 v7
              go_wp2
              go_roundw
              case rel => exact ⟨j + 1, by go_num, by omega, H4, HB4⟩
              case measure => simp [intOf]; omega
            · have hkI : ¬ (j : Int) < (l.length : Int) := by omega
              have hst := HST.out
              rw [List.take_of_length_le (by omega)] at hst
              have x0 : wr.cell? ⟨ob, 0, none⟩ = some (.slice (some ⟨w.heap.size, 0, none⟩) n n) := by have := hst.c0; rw [rowsAt_len] at this; exact this
              have HE := Lib.hid (And.intro hst.pc.1 HB.out.1)
              clear hst HST
              go_wp2
              go_ret
              refine ⟨some ⟨w.heap.size, 0, none⟩, n, ?_, HE.out.1, HE.out.2⟩
              rw [rowsP, rowsAt_len]
              rfl

end Go.Proofs.Ytbjgigdkbjabaaa
