/- TabQ: a match read from a text: both sides. Each contract holds for every argument, under the premises that it states. -/
import Derived.Test.YtbjgigdkbjabaaaDoorTabM
namespace Go.Proofs.YtbjgigdkbjabaaaDoor
set_option linter.unusedSimpArgs false
set_option linter.unusedVariables false
set_option linter.unnecessarySimpa false
open Go.RowKit Go.ChangeShapes Go.WideShapes Go.ChangeAt Go.Joins

/-! ### in plain terms -/
def joinB : List (List UInt8) → List UInt8
  | [] => []
  | [w] => w
  | w :: v :: ws => w ++ 32 :: joinB (v :: ws)
theorem joinB_head (x : UInt8) : ∀ S : List (List UInt8), joinB (headB x S) = x :: joinB S
  | [] => rfl
  | [w] => rfl
  | w :: v :: ws => rfl
theorem joinB_nil (S : List (List UInt8)) (h : S ≠ []) : joinB ([] :: S) = 32 :: joinB S := by
  cases S with
  | nil => exact absurd rfl h
  | cons a b => rfl
theorem join_split : ∀ l : List UInt8, joinB (splitB 32 l) = l
  | [] => rfl
  | x :: l => by
    have e : splitB 32 (x :: l) = if x = 32 then [] :: splitB 32 l else headB x (splitB 32 l) := rfl
    rw [e]
    split
    · next h => rw [joinB_nil _ (splitB_ne 32 l), join_split l, h]
    · rw [joinB_head, join_split l]
theorem split_mem {c : UInt8} : ∀ {l p : List UInt8}, p ∈ splitB c l → p.length ≤ l.length
  | [], p, h => by simp [splitB] at h; rw [h]; exact Nat.le_refl _
  | x :: l, p, h => by
    have e : splitB c (x :: l) = if x = c then [] :: splitB c l else headB x (splitB c l) := rfl
    rw [e] at h
    by_cases hx : x = c
    · rw [if_pos hx] at h
      rcases List.mem_cons.1 h with rfl | h
      · simp
      · have := split_mem h
        simp
        omega
    · rw [if_neg hx] at h
      cases hs : splitB c l with
      | nil => exact absurd hs (splitB_ne c l)
      | cons a b =>
        rw [hs] at h
        rcases List.mem_cons.1 h with rfl | h
        · have := split_mem (c := c) (l := l) (p := a) (by rw [hs]; exact List.mem_cons_self ..)
          simp
          omega
        · have := split_mem (c := c) (l := l) (p := p) (by rw [hs]; exact List.mem_cons_of_mem _ h)
          simp
          omega
/-- what a text that is read as a number is: the text of the number -/
theorem rdT_itoa {t l : List UInt8} {neg : Bool} (h : (rdT t neg l).2 = true) : Lib.itoa (rdT t neg l).1 = l ∧ -999999999999999999 ≤ (rdT t neg l).1 ∧ (rdT t neg l).1 ≤ 999999999999999999 := by
  have hb : t.length ≤ 18 → t.all digB = true → valB t ≤ 999999999999999999 := fun h1 h2 => by
    have := valB_18 (l := t) (k := t.length) (Nat.le_refl _) h1 (by rw [List.take_length]; exact h2)
    rw [List.take_length] at this
    exact this
  obtain ⟨v, hv⟩ : ∃ v : Int, v = (if neg then -(valB t : Int) else (valB t : Int)) := ⟨_, rfl⟩
  have hvb : t.length ≤ 18 → t.all digB = true → -999999999999999999 ≤ v ∧ v ≤ 999999999999999999 := fun h1 h2 => by
    have := hb h1 h2
    rw [hv]
    split <;> omega
  unfold rdT at h ⊢
  rw [← hv] at h ⊢
  by_cases h0 : t.length = 0 ∨ 18 < t.length
  · rw [if_pos h0] at h
    cases h
  rw [if_neg h0] at h ⊢
  by_cases h1 : t.all digB = true
  · rw [if_pos h1] at h ⊢
    by_cases h2 : Lib.itoa v = l
    · rw [if_pos h2]
      exact ⟨h2, hvb (by omega) h1⟩
    · rw [if_neg h2] at h
      cases h
  · rw [if_neg h1] at h
    cases h
theorem rdP_itoa {l : List UInt8} (h : (rdP l).2 = true) : Lib.itoa (rdP l).1 = l ∧ -999999999999999999 ≤ (rdP l).1 ∧ (rdP l).1 ≤ 999999999999999999 := by
  unfold rdP at h ⊢
  split
  · next h0 => rw [if_pos h0] at h; exact rdT_itoa h
  · next h0 => rw [if_neg h0] at h; exact rdT_itoa h
def wm (ws : List (List UInt8)) : Mt := ⟨(rdP (ws.getD 0 [])).1, (rdP (ws.getD 1 [])).1, (rdP (ws.getD 2 [])).1, decide (ws.length = 4)⟩
def wok (ws : List (List UInt8)) : Bool := (rdP (ws.getD 0 [])).2 && (rdP (ws.getD 1 [])).2 && (rdP (ws.getD 2 [])).2
def rmI (l : List UInt8) : Mt × Bool :=
  if (splitB 32 l).length < 3 then (Mt.nil, false)
  else if wok (splitB 32 l) = true ∧ mT (wm (splitB 32 l)) = l then (wm (splitB 32 l), true) else (Mt.nil, false)
def badS (ws : List (List UInt8)) : Bool := decide (ws.length < 3) || decide (4 < ws.length) || (decide (ws.length = 4) && decide (¬ ws.getD 3 [] = [102]))
def rmS (l : List UInt8) : Mt × Bool :=
  if badS (splitB 32 l) = true then (Mt.nil, false)
  else if wok (splitB 32 l) = true ∧ (wm (splitB 32 l)).ok 12 = true then (wm (splitB 32 l), true) else (Mt.nil, false)
theorem rm_eq (l : List UInt8) : rmI l = rmS l := by
  obtain ⟨ws, hws⟩ : ∃ ws, ws = splitB 32 l := ⟨_, rfl⟩
  have hj := join_split l
  rw [← hws] at hj
  unfold rmI rmS
  rw [← hws]
  by_cases h3 : ws.length < 3
  · rw [if_pos h3, if_pos (by simp [badS, h3])]
  rw [if_neg h3]
  match ws, hj, h3 with
  | [], _, h3 => simp at h3
  | [_], _, h3 => simp at h3
  | [_, _], _, h3 => simp at h3
  | [x, y, z], hj, _ =>
    rw [if_neg (c := badS _ = true) (by simp [badS])]
    by_cases hk : wok [x, y, z] = true
    · have hk2 := hk
      simp only [wok, Bool.and_eq_true] at hk2
      have e1 := (rdP_itoa hk2.1.1).1
      have e2 := (rdP_itoa hk2.1.2).1
      have e3 := (rdP_itoa hk2.2).1
      have hT : wordsT (wm [x, y, z]) = l := by
        unfold wordsT wm
        rw [e1, e2, e3, ← hj]
        simp [joinB]
      by_cases ho : (wm [x, y, z]).ok 12 = true
      · rw [if_pos ⟨hk, by unfold mT; rw [if_pos ho, hT]⟩, if_pos ⟨hk, ho⟩]
      · rw [if_neg (fun h => ?_), if_neg (fun h => ho h.2)]
        have := h.2
        unfold mT at this
        rw [if_neg ho, ← hj] at this
        simp [joinB] at this
    · rw [if_neg (fun h => hk h.1), if_neg (fun h => hk h.1)]
  | [x, y, z, v], hj, _ =>
    by_cases hk : wok [x, y, z, v] = true
    · have hk2 := hk
      simp only [wok, Bool.and_eq_true] at hk2
      have e1 := (rdP_itoa hk2.1.1).1
      have e2 := (rdP_itoa hk2.1.2).1
      have e3 := (rdP_itoa hk2.2).1
      have hT : wordsT (wm [x, y, z, v]) = x ++ [32] ++ y ++ [32] ++ z ++ [32, 102] := by
        unfold wordsT wm
        rw [e1, e2, e3]
        simp
      by_cases hv : v = [102]
      · subst hv
        have hT2 : wordsT (wm [x, y, z, [102]]) = l := by
          rw [hT, ← hj]
          simp [joinB]
        rw [if_neg (c := badS _ = true) (by simp [badS])]
        by_cases ho : (wm [x, y, z, [102]]).ok 12 = true
        · rw [if_pos ⟨hk, by unfold mT; rw [if_pos ho, hT2]⟩, if_pos ⟨hk, ho⟩]
        · rw [if_neg (fun h => ?_), if_neg (fun h => ho h.2)]
          have := h.2
          unfold mT at this
          rw [if_neg ho, ← hj] at this
          simp [joinB] at this
      · rw [if_neg (fun h => ?_), if_pos (by simp [badS]; exact hv)]
        have := h.2
        unfold mT at this
        split at this
        · rw [hT, ← hj] at this
          simp [joinB] at this
          exact hv this.symm
        · rw [← hj] at this
          simp [joinB] at this
    · rw [if_neg (fun h => hk h.1)]
      split
      · rfl
      · rw [if_neg (fun h => hk h.1)]
  | x :: y :: z :: u :: v :: r, hj, _ =>
    rw [if_pos (c := badS _ = true) (by simp [badS])]
    by_cases hk : wok (x :: y :: z :: u :: v :: r) = true
    · have hk2 := hk
      simp only [wok, Bool.and_eq_true] at hk2
      have e1 := (rdP_itoa hk2.1.1).1
      have e2 := (rdP_itoa hk2.1.2).1
      have e3 := (rdP_itoa hk2.2).1
      have hT : wordsT (wm (x :: y :: z :: u :: v :: r)) = x ++ [32] ++ y ++ [32] ++ z := by
        unfold wordsT wm
        rw [e1, e2, e3]
        simp
      rw [if_neg (fun h => ?_)]
      have := h.2
      unfold mT at this
      split at this
      · rw [hT, ← hj] at this
        simp [joinB] at this
      · rw [← hj] at this
        simp [joinB] at this
    · rw [if_neg (fun h => hk h.1)]

theorem sv_at {ws : List (List UInt8)} {k : Nat} (h : k < ws.length) : (svals ws)[k]? = some (.string ⟨(ws.getD k []).toArray⟩) := by simp [svals, h]
theorem getD_mem {ws : List (List UInt8)} {k : Nat} (h : k < ws.length) : ws.getD k [] ∈ ws := by
  simp [h]

@[reducible] def nilCells : Array Value := #[.int .i64 0, .int .i64 0, .int .i64 0, .bool false]
set_option maxRecDepth 100000 in
set_option maxHeartbeats 16000000 in
theorem iReadMatch_c (l : List UInt8) (w : World) (HT0 : TabB w) (hl : l.length ≤ 1000000) :
    Calls Tryd.prog 22 #[.string ⟨l.toArray⟩] w fun e w' => e = .returned (.tuple #[(rmI l).1.val, .bool (rmI l).2]) ∧ Below w.heap.size w w' := by
  obtain ⟨ws, hws⟩ : ∃ ws, ws = splitB 32 l := ⟨_, rfl⟩
  have HP := Lib.hid (fun W => parts_c l W hl)
  have HT := Lib.hid HT0
  have HB0 : Hid (Below w.heap.size w (w.alloc (.cells nilCells 45))) := below_alloc1 _ _
  have HBX : Hid (BoxP w.heap.size nilCells.toList (w.alloc (.cells nilCells 45))) := ((Fr.start w).alloc nilCells 45).at 0 rfl
  have HK : Hid (∀ W, Below (w.alloc (.cells nilCells 45)).heap.size (w.alloc (.cells nilCells 45)) W → (W.cell? ⟨w.heap.size, 0, none⟩ = some (.int .i64 0) ∧ W.cell? ⟨w.heap.size, 1, none⟩ = some (.int .i64 0) ∧ W.cell? ⟨w.heap.size, 2, none⟩ = some (.int .i64 0) ∧ W.cell? ⟨w.heap.size, 3, none⟩ = some (.bool false)) ∧ ∀ o, W.frozen? ⟨w.heap.size, o, none⟩ = false) := fun W hW => by
    have hx := boxP_keep HBX.out hW
    exact ⟨⟨hx 0 _ rfl, hx 1 _ rfl, hx 2 _ rfl, hx 3 _ rfl⟩, fun o => ((bcell hW).2 _ o (by simp)).trans (by simp [go_sem])⟩
  clear HBX
  have HMEM : Hid (∀ p ∈ ws, p.length ≤ 1000000) := fun p hp => Nat.le_trans (split_mem (by rw [← hws]; exact hp)) hl
  have hRM : rmI l = if ws.length < 3 then (Mt.nil, false) else if wok ws = true ∧ mT (wm ws) = l then (wm ws, true) else (Mt.nil, false) := by unfold rmI; rw [← hws]
  have HRM := Lib.hid hRM
  have HWL : Hid (ws.length ≤ 1000001) := by have := splitB_len 32 l; rw [← hws] at this; unfold Hid; omega
  have HIE : Hid (¬ ws.length < 3 → l.isEmpty = false) := fun h => by
    cases l with
    | nil => exact absurd (by rw [hws]; decide) h
    | cons a b => rfl
  rw [← hws] at HP
  clear hRM hws HT0
  by_cases h3 : ws.length < 3
  · have HF : Hid (rmI l = (Mt.nil, false)) := by unfold Hid; rw [HRM.out, if_pos h3]
    have h3I : (ws.length : Int) < 3 := by omega
    clear HRM
    go_enter Tryd.func22, Tryd.ntmps22
    go_wp2_with fail
    refine (HP.out _).mono ?_
    rintro e w1 ⟨a, c, rfl, ho1, hb1⟩
    have HB1 := Lib.hid (below_next HB0.out hb1)
    obtain ⟨⟨k0, k1, k2, k3⟩, kf⟩ := HK.out _ hb1
    clear ho1 hb1 HB0 HP HK
    go_wp2
    refine bodyPost_ret (v := .tuple #[Mt.nil.val, .bool false]) (by simp [results, Tryd.results22, go_sem, Mt.val, Mt.cells, Mt.nil, k0, k1, k2, k3]) rfl ⟨by rw [HF.out], ?_⟩
    exact (((HB1.out.setCell (Nat.le_refl _) _).setCell (Nat.le_refl _) _).setCell (Nat.le_refl _) _).setCell (Nat.le_refl _) _
  · have h3I : ¬ (ws.length : Int) < 3 := by omega
    have i0 : (0 : Int) < (ws.length : Int) := by omega
    have i1 : (1 : Int) < (ws.length : Int) := by omega
    have i2 : (2 : Int) < (ws.length : Int) := by omega
    have hlen : ws.length ≤ 1000001 := HWL.out
    have s0 := sv_at (ws := ws) (k := 0) (by omega)
    have s1 := sv_at (ws := ws) (k := 1) (by omega)
    have s2 := sv_at (ws := ws) (k := 2) (by omega)
    have m0 : (ws.getD 0 []).length ≤ 1000000 := HMEM.out _ (getD_mem (by omega))
    have m1 : (ws.getD 1 []).length ≤ 1000000 := HMEM.out _ (getD_mem (by omega))
    have m2 : (ws.getD 2 []).length ≤ 1000000 := HMEM.out _ (getD_mem (by omega))
    have hR : rmI l = if wok ws = true ∧ mT (wm ws) = l then (wm ws, true) else (Mt.nil, false) := by rw [HRM.out, if_neg h3]
    have hwm : wm ws = ⟨(rdP (ws.getD 0 [])).1, (rdP (ws.getD 1 [])).1, (rdP (ws.getD 2 [])).1, decide (ws.length = 4)⟩ := rfl
    have hwo : wok ws = ((rdP (ws.getD 0 [])).2 && (rdP (ws.getD 1 [])).2 && (rdP (ws.getD 2 [])).2) := rfl
    obtain ⟨F, hF⟩ : ∃ F, F = decide (ws.length = 4) := ⟨_, rfl⟩
    have hff : ((ws.length : Int) == 4) = F := by
      rw [hF]
      by_cases h4 : ws.length = 4
      · rw [h4]; rfl
      · rw [decide_eq_false h4]
        simp
        omega
    have HX := Lib.hid (fun (W : World) (hW : Below w.heap.size w W) => ReadDecimal_c (ws.getD 0 []) W (fun W' hW' => HT.out W' (below_next hW hW')) m0)
    have HY := Lib.hid (fun (W : World) (hW : Below w.heap.size w W) => ReadDecimal_c (ws.getD 1 []) W (fun W' hW' => HT.out W' (below_next hW hW')) m1)
    have HZ := Lib.hid (fun (W : World) (hW : Below w.heap.size w W) => ReadDecimal_c (ws.getD 2 []) W (fun W' hW' => HT.out W' (below_next hW hW')) m2)
    obtain ⟨x, hx⟩ : ∃ x, x = ws.getD 0 [] := ⟨_, rfl⟩
    obtain ⟨y, hy⟩ : ∃ y, y = ws.getD 1 [] := ⟨_, rfl⟩
    obtain ⟨z, hz⟩ : ∃ z, z = ws.getD 2 [] := ⟨_, rfl⟩
    rw [← hF] at hwm
    rw [← hx] at hwm hwo HX s0
    rw [← hy] at hwm hwo HY s1
    rw [← hz] at hwm hwo HZ s2
    obtain ⟨X, hX⟩ : ∃ X, X = (rdP x).1 := ⟨_, rfl⟩
    obtain ⟨Y, hY⟩ : ∃ Y, Y = (rdP y).1 := ⟨_, rfl⟩
    obtain ⟨Z, hZ⟩ : ∃ Z, Z = (rdP z).1 := ⟨_, rfl⟩
    obtain ⟨bx, hbx⟩ : ∃ b, b = (rdP x).2 := ⟨_, rfl⟩
    obtain ⟨by', hby⟩ : ∃ b, b = (rdP y).2 := ⟨_, rfl⟩
    obtain ⟨bz, hbz⟩ : ∃ b, b = (rdP z).2 := ⟨_, rfl⟩
    rw [← hX] at hwm HX
    rw [← hY] at hwm HY
    rw [← hZ] at hwm HZ
    rw [← hbx] at hwo HX
    rw [← hby] at hwo HY
    rw [← hbz] at hwo HZ
    rw [hwm, hwo] at hR
    have HR := Lib.hid hR
    have HS0 := Lib.hid s0
    have HS1 := Lib.hid s1
    have HS2 := Lib.hid s2
    have hie : l.isEmpty = false := HIE.out h3
    clear hx hy hz hX hY hZ hbx hby hbz hwm hwo hR s0 s1 s2 m0 m1 m2 hF HRM h3 HT HMEM HWL HIE
    go_enter Tryd.func22, Tryd.ntmps22
    go_wp2_with fail
    refine (HP.out _).mono ?_
    rintro e w1 ⟨a, c, rfl, ho1, hb1⟩
    obtain ⟨g, rfl, hg1, hg2⟩ := own_lt_n ho1 (by omega)
    have HC : Hid (∀ W, Below w1.heap.size w1 W → W.cell? ⟨g, 0, none⟩ = some (.string ⟨x.toArray⟩) ∧ W.cell? ⟨g, 1, none⟩ = some (.string ⟨y.toArray⟩) ∧ W.cell? ⟨g, 2, none⟩ = some (.string ⟨z.toArray⟩)) := fun W hW =>
      ⟨(hW.cell (p := ⟨g, 0, none⟩) hg2).trans (ho1.cells (g := g) rfl 0 _ HS0.out), (hW.cell (p := ⟨g, 1, none⟩) hg2).trans (ho1.cells (g := g) rfl 1 _ HS1.out), (hW.cell (p := ⟨g, 2, none⟩) hg2).trans (ho1.cells (g := g) rfl 2 _ HS2.out)⟩
    have HB1 := Lib.hid hb1
    obtain ⟨c0, c1, c2⟩ := HC.out w1 (Below.refl _ _)
    clear ho1 hb1 HP HS0 HS1 HS2 hg1 hg2
    go_wp2_with fail
    refine (HX.out _ (below_next HB0.out HB1.out)).mono ?_
    rintro e w2 ⟨rfl, hb2⟩
    have HB2 := Lib.hid (below_next HB1.out hb2)
    have HB12 := Lib.hid hb2
    clear c0 c1 c2 hb2 HX HB1
    obtain ⟨c0, c1, c2⟩ := HC.out _ HB12.out
    go_wp2_with fail
    refine (HY.out _ (below_next HB0.out HB2.out)).mono ?_
    rintro e w3 ⟨rfl, hb3⟩
    have HB3 := Lib.hid (below_next HB2.out hb3)
    have HB13 := Lib.hid (below_next HB12.out hb3)
    clear c0 c1 c2 hb3 HY HB2 HB12
    obtain ⟨c0, c1, c2⟩ := HC.out _ HB13.out
    go_wp2_with fail
    refine (HZ.out _ (below_next HB0.out HB3.out)).mono ?_
    rintro e w4 ⟨rfl, hb4⟩
    have HB4 := Lib.hid (below_next HB3.out hb4)
    clear c0 c1 c2 hb4 HZ HB3 HB13 HC
    have HW5 : Hid (Below (w.alloc (.cells nilCells 45)).heap.size (w.alloc (.cells nilCells 45)) (w4.alloc (.cells #[.int .i64 X, .int .i64 Y, .int .i64 Z, .bool F] 45))) := below_next HB4.out (below_alloc1 _ _)
    have HBX5 : Hid (BoxP w4.heap.size [.int .i64 X, .int .i64 Y, .int .i64 Z, .bool F] (w4.alloc (.cells #[.int .i64 X, .int .i64 Y, .int .i64 Z, .bool F] 45))) := ((Fr.start w4).alloc #[.int .i64 X, .int .i64 Y, .int .i64 Z, .bool F] 45).at 0 rfl
    by_cases hb : (bx && by' && bz) = true
    · have hR2 : rmI l = if mT ⟨X, Y, Z, F⟩ = l then (⟨X, Y, Z, F⟩, true) else (Mt.nil, false) := by
        rw [HR.out, hb]
        simp
      simp only [Bool.and_eq_true] at hb
      obtain ⟨⟨rfl, rfl⟩, rfl⟩ := hb
      have HM := Lib.hid (fun W => iMatchText_c ⟨X, Y, Z, F⟩ W)
      obtain ⟨T, hT⟩ : ∃ T, T = mT ⟨X, Y, Z, F⟩ := ⟨_, rfl⟩
      rw [← hT] at HM hR2
      have HR2 := Lib.hid hR2
      clear hT hR2 HR
      go_wp2_with fail
      refine (HM.out _).mono ?_
      rintro e w5 ⟨rfl, hb5⟩
      have hbx := boxP_keep HBX5.out hb5
      have j0 : w5.cell? ⟨w4.heap.size, 0, none⟩ = some (.int .i64 X) := hbx 0 _ rfl
      have j1 : w5.cell? ⟨w4.heap.size, 1, none⟩ = some (.int .i64 Y) := hbx 1 _ rfl
      have j2 : w5.cell? ⟨w4.heap.size, 2, none⟩ = some (.int .i64 Z) := hbx 2 _ rfl
      have j3 : w5.cell? ⟨w4.heap.size, 3, none⟩ = some (.bool F) := hbx 3 _ rfl
      have HB5 := Lib.hid (below_next HW5.out hb5)
      obtain ⟨⟨k0, k1, k2, k3⟩, kf⟩ := HK.out _ HB5.out
      have HBB := Lib.hid (below_next HB0.out HB5.out)
      clear hb5 HM hbx HBX5 HW5 HK HB4 HB5
      by_cases he : T = l
      · have heq : (T == l) = true := by simpa using he
        have hne : (T != l) = false := by simpa using he
        have HF : Hid (rmI l = (⟨X, Y, Z, F⟩, true)) := by unfold Hid; rw [HR2.out, if_pos he]
        clear HR2 he
        go_wp2
        refine bodyPost_ret (v := .tuple #[.agg #[.int .i64 X, .int .i64 Y, .int .i64 Z, .bool F], .bool true]) (by simp [results, Tryd.results22, go_sem, k0, k1, k2, k3]) rfl ⟨by rw [HF.out]; rfl, ?_⟩
        exact (((HBB.out.setCell (Nat.le_refl _) _).setCell (Nat.le_refl _) _).setCell (Nat.le_refl _) _).setCell (Nat.le_refl _) _
      · have heq : (T == l) = false := by simpa using he
        have hne : (T != l) = true := by simpa using he
        have HF : Hid (rmI l = (Mt.nil, false)) := by unfold Hid; rw [HR2.out, if_neg he]
        clear HR2 he j0 j1 j2 j3
        go_wp2
        refine bodyPost_ret (v := .tuple #[Mt.nil.val, .bool false]) (by simp [results, Tryd.results22, go_sem, Mt.val, Mt.cells, Mt.nil, k0, k1, k2, k3]) rfl ⟨by rw [HF.out], ?_⟩
        exact (((HBB.out.setCell (Nat.le_refl _) _).setCell (Nat.le_refl _) _).setCell (Nat.le_refl _) _).setCell (Nat.le_refl _) _
    · have HF : Hid (rmI l = (Mt.nil, false)) := by unfold Hid; rw [HR.out, if_neg (fun h => hb h.1)]
      have HBB := Lib.hid (below_next HB0.out HW5.out)
      obtain ⟨⟨k0, k1, k2, k3⟩, kf⟩ := HK.out _ HW5.out
      clear HR HBX5 HW5 HK HB4
      cases bx <;> cases by' <;> cases bz
      case true.true.true => exact absurd rfl hb
      all_goals clear hb
      all_goals
        go_wp2
        refine bodyPost_ret (v := .tuple #[Mt.nil.val, .bool false]) (by simp [results, Tryd.results22, go_sem, Mt.val, Mt.cells, Mt.nil, k0, k1, k2, k3]) rfl ⟨by rw [HF.out], ?_⟩
        exact (((HBB.out.setCell (Nat.le_refl _) _).setCell (Nat.le_refl _) _).setCell (Nat.le_refl _) _).setCell (Nat.le_refl _) _

theorem badS_no {ws : List (List UInt8)} (h3 : ¬ ws.length < 3) (h5 : ¬ 4 < ws.length) (h4 : ¬ (ws.length = 4 ∧ ¬ ws.getD 3 [] = [102])) : ¬ badS ws = true := by
  unfold badS
  simp only [Bool.or_eq_true, Bool.and_eq_true, decide_eq_true_eq]
  rintro ((h | h) | h)
  · exact h3 h
  · exact h5 h
  · exact h4 h
set_option maxRecDepth 100000 in
set_option maxHeartbeats 16000000 in
theorem sReadMatch_c (l : List UInt8) (w : World) (hl : l.length ≤ 1000000) :
    Calls Tryd.prog 24 #[.string ⟨l.toArray⟩] w fun e w' => e = .returned (.tuple #[(rmS l).1.val, .bool (rmS l).2]) ∧ Below w.heap.size w w' := by
  obtain ⟨ws, hws⟩ : ∃ ws, ws = splitB 32 l := ⟨_, rfl⟩
  have HP := Lib.hid (fun W => l01Split_c l W hl)
  have HB0 : Hid (Below w.heap.size w (w.alloc (.cells nilCells 45))) := below_alloc1 _ _
  have HBX : Hid (BoxP w.heap.size nilCells.toList (w.alloc (.cells nilCells 45))) := ((Fr.start w).alloc nilCells 45).at 0 rfl
  have HK : Hid (∀ W, Below (w.alloc (.cells nilCells 45)).heap.size (w.alloc (.cells nilCells 45)) W → (W.cell? ⟨w.heap.size, 0, none⟩ = some (.int .i64 0) ∧ W.cell? ⟨w.heap.size, 1, none⟩ = some (.int .i64 0) ∧ W.cell? ⟨w.heap.size, 2, none⟩ = some (.int .i64 0) ∧ W.cell? ⟨w.heap.size, 3, none⟩ = some (.bool false)) ∧ ∀ o, W.frozen? ⟨w.heap.size, o, none⟩ = false) := fun W hW => by
    have hx := boxP_keep HBX.out hW
    exact ⟨⟨hx 0 _ rfl, hx 1 _ rfl, hx 2 _ rfl, hx 3 _ rfl⟩, fun o => ((bcell hW).2 _ o (by simp)).trans (by simp [go_sem])⟩
  clear HBX
  have HMEM : Hid (∀ p ∈ ws, p.length ≤ 1000000) := fun p hp => Nat.le_trans (split_mem (by rw [← hws]; exact hp)) hl
  have hRM : rmS l = if badS ws = true then (Mt.nil, false) else if wok ws = true ∧ (wm ws).ok 12 = true then (wm ws, true) else (Mt.nil, false) := by unfold rmS; rw [← hws]
  have HRM := Lib.hid hRM
  have HWL : Hid (ws.length ≤ 1000001) := by have := splitB_len 32 l; rw [← hws] at this; unfold Hid; omega
  have HIE : Hid (¬ ws.length < 3 → l.isEmpty = false) := fun h => by
    cases l with
    | nil => exact absurd (by rw [hws]; decide) h
    | cons a b => rfl
  rw [← hws] at HP
  clear hRM hws
  by_cases h3 : ws.length < 3
  · have HF : Hid (rmS l = (Mt.nil, false)) := by unfold Hid; rw [HRM.out, if_pos (by simp [badS, h3])]
    have h3I : (ws.length : Int) < 3 := by omega
    clear HRM
    go_enter Tryd.func24, Tryd.ntmps24
    go_wp2_with fail
    refine (HP.out _).mono ?_
    rintro e w1 ⟨a, c, rfl, ho1, hb1⟩
    have HB1 := Lib.hid (below_next HB0.out hb1)
    obtain ⟨⟨k0, k1, k2, k3⟩, kf⟩ := HK.out _ hb1
    clear ho1 hb1 HB0 HP HK
    go_wp2
    refine bodyPost_ret (v := .tuple #[Mt.nil.val, .bool false]) (by simp [results, Tryd.results24, go_sem, Mt.val, Mt.cells, Mt.nil, k0, k1, k2, k3]) rfl ⟨by rw [HF.out], ?_⟩
    exact (((HB1.out.setCell (Nat.le_refl _) _).setCell (Nat.le_refl _) _).setCell (Nat.le_refl _) _).setCell (Nat.le_refl _) _
  have h3I : ¬ (ws.length : Int) < 3 := by omega
  by_cases h5 : 4 < ws.length
  · have HF : Hid (rmS l = (Mt.nil, false)) := by unfold Hid; rw [HRM.out, if_pos (by simp [badS, h5])]
    have h5I : (4 : Int) < (ws.length : Int) := by omega
    clear HRM
    go_enter Tryd.func24, Tryd.ntmps24
    go_wp2_with fail
    refine (HP.out _).mono ?_
    rintro e w1 ⟨a, c, rfl, ho1, hb1⟩
    have HB1 := Lib.hid (below_next HB0.out hb1)
    obtain ⟨⟨k0, k1, k2, k3⟩, kf⟩ := HK.out _ hb1
    clear ho1 hb1 HB0 HP HK
    go_wp2
    refine bodyPost_ret (v := .tuple #[Mt.nil.val, .bool false]) (by simp [results, Tryd.results24, go_sem, Mt.val, Mt.cells, Mt.nil, k0, k1, k2, k3]) rfl ⟨by rw [HF.out], ?_⟩
    exact (((HB1.out.setCell (Nat.le_refl _) _).setCell (Nat.le_refl _) _).setCell (Nat.le_refl _) _).setCell (Nat.le_refl _) _
  have h5I : ¬ (4 : Int) < (ws.length : Int) := by omega
  by_cases h4 : ws.length = 4 ∧ ¬ ws.getD 3 [] = [102]
  · have HF : Hid (rmS l = (Mt.nil, false)) := by unfold Hid; rw [HRM.out, if_pos (by unfold badS; rw [decide_eq_true h4.1, decide_eq_true h4.2]; simp)]
    have HS3 := Lib.hid (sv_at (ws := ws) (k := 3) (by omega))
    obtain ⟨u, hu⟩ : ∃ u, u = ws.getD 3 [] := ⟨_, rfl⟩
    rw [← hu] at HS3
    have h4I : ((ws.length : Int) == 4) = true := by rw [h4.1]; rfl
    have i3 : (3 : Int) < (ws.length : Int) := by omega
    have hu1 : (u == [102]) = false := by rw [hu]; simpa using h4.2
    have hu2 : (u != [102]) = true := by rw [hu]; simpa using h4.2
    clear HRM hu
    go_enter Tryd.func24, Tryd.ntmps24
    go_wp2_with fail
    refine (HP.out _).mono ?_
    rintro e w1 ⟨a, c, rfl, ho1, hb1⟩
    have HB1 := Lib.hid (below_next HB0.out hb1)
    obtain ⟨g, rfl, hg1, hg2⟩ := own_lt_n ho1 (by omega)
    have c3 : w1.cell? ⟨g, 3, none⟩ = some (.string ⟨u.toArray⟩) := ho1.cells (g := g) rfl 3 _ HS3.out
    obtain ⟨⟨k0, k1, k2, k3⟩, kf⟩ := HK.out _ hb1
    clear ho1 hb1 HB0 HP HK
    go_wp2
    refine bodyPost_ret (v := .tuple #[Mt.nil.val, .bool false]) (by simp [results, Tryd.results24, go_sem, Mt.val, Mt.cells, Mt.nil, k0, k1, k2, k3]) rfl ⟨by rw [HF.out], ?_⟩
    exact (((HB1.out.setCell (Nat.le_refl _) _).setCell (Nat.le_refl _) _).setCell (Nat.le_refl _) _).setCell (Nat.le_refl _) _
  · have i0 : (0 : Int) < (ws.length : Int) := by omega
    have i1 : (1 : Int) < (ws.length : Int) := by omega
    have i2 : (2 : Int) < (ws.length : Int) := by omega
    have hlen : ws.length ≤ 1000001 := HWL.out
    have s0 := sv_at (ws := ws) (k := 0) (by omega)
    have s1 := sv_at (ws := ws) (k := 1) (by omega)
    have s2 := sv_at (ws := ws) (k := 2) (by omega)
    have m0 : (ws.getD 0 []).length ≤ 1000000 := HMEM.out _ (getD_mem (by omega))
    have m1 : (ws.getD 1 []).length ≤ 1000000 := HMEM.out _ (getD_mem (by omega))
    have m2 : (ws.getD 2 []).length ≤ 1000000 := HMEM.out _ (getD_mem (by omega))
    have hR : rmS l = if wok ws = true ∧ (wm ws).ok 12 = true then (wm ws, true) else (Mt.nil, false) := by rw [HRM.out, if_neg (badS_no h3 h5 h4)]
    have hwm : wm ws = ⟨(rdP (ws.getD 0 [])).1, (rdP (ws.getD 1 [])).1, (rdP (ws.getD 2 [])).1, decide (ws.length = 4)⟩ := rfl
    have hwo : wok ws = ((rdP (ws.getD 0 [])).2 && (rdP (ws.getD 1 [])).2 && (rdP (ws.getD 2 [])).2) := rfl
    obtain ⟨F, hF⟩ : ∃ F, F = decide (ws.length = 4) := ⟨_, rfl⟩
    have hff : ((ws.length : Int) == 4) = F := by
      rw [hF]
      by_cases h4 : ws.length = 4
      · rw [h4]; rfl
      · rw [decide_eq_false h4]
        simp
        omega
    have HX := Lib.hid (fun (W : World) => l01Number_c (ws.getD 0 []) W m0)
    have HY := Lib.hid (fun (W : World) => l01Number_c (ws.getD 1 []) W m1)
    have HZ := Lib.hid (fun (W : World) => l01Number_c (ws.getD 2 []) W m2)
    obtain ⟨x, hx⟩ : ∃ x, x = ws.getD 0 [] := ⟨_, rfl⟩
    obtain ⟨y, hy⟩ : ∃ y, y = ws.getD 1 [] := ⟨_, rfl⟩
    obtain ⟨z, hz⟩ : ∃ z, z = ws.getD 2 [] := ⟨_, rfl⟩
    rw [← hF] at hwm
    rw [← hx] at hwm hwo HX s0
    rw [← hy] at hwm hwo HY s1
    rw [← hz] at hwm hwo HZ s2
    obtain ⟨X, hX⟩ : ∃ X, X = (rdP x).1 := ⟨_, rfl⟩
    obtain ⟨Y, hY⟩ : ∃ Y, Y = (rdP y).1 := ⟨_, rfl⟩
    obtain ⟨Z, hZ⟩ : ∃ Z, Z = (rdP z).1 := ⟨_, rfl⟩
    obtain ⟨bx, hbx⟩ : ∃ b, b = (rdP x).2 := ⟨_, rfl⟩
    obtain ⟨by', hby⟩ : ∃ b, b = (rdP y).2 := ⟨_, rfl⟩
    obtain ⟨bz, hbz⟩ : ∃ b, b = (rdP z).2 := ⟨_, rfl⟩
    rw [← hX] at hwm HX
    rw [← hY] at hwm HY
    rw [← hZ] at hwm HZ
    rw [← hbx] at hwo HX
    rw [← hby] at hwo HY
    rw [← hbz] at hwo HZ
    rw [hwm, hwo] at hR
    have HR := Lib.hid hR
    have HS0 := Lib.hid s0
    have HS1 := Lib.hid s1
    have HS2 := Lib.hid s2
    clear hx hy hz hX hY hZ hbx hby hbz hwm hwo hR s0 s1 s2 m0 m1 m2 hF HRM h3 h5 HMEM HWL HIE
    have HS3 : Hid (ws.length = 4 → (svals ws)[3]? = some (.string ⟨[102].toArray⟩)) := fun e => by
      rw [sv_at (ws := ws) (k := 3) (by omega)]
      rw [Classical.byContradiction fun h => h4 ⟨e, h⟩]
    clear h4
    go_enter Tryd.func24, Tryd.ntmps24
    go_wp2_with fail
    refine (HP.out _).mono ?_
    rintro e w1 ⟨a, c, rfl, ho1, hb1⟩
    obtain ⟨g, rfl, hg1, hg2⟩ := own_lt_n ho1 (by omega)
    have HC : Hid (∀ W, Below w1.heap.size w1 W → W.cell? ⟨g, 0, none⟩ = some (.string ⟨x.toArray⟩) ∧ W.cell? ⟨g, 1, none⟩ = some (.string ⟨y.toArray⟩) ∧ W.cell? ⟨g, 2, none⟩ = some (.string ⟨z.toArray⟩)) := fun W hW =>
      ⟨(hW.cell (p := ⟨g, 0, none⟩) hg2).trans (ho1.cells (g := g) rfl 0 _ HS0.out), (hW.cell (p := ⟨g, 1, none⟩) hg2).trans (ho1.cells (g := g) rfl 1 _ HS1.out), (hW.cell (p := ⟨g, 2, none⟩) hg2).trans (ho1.cells (g := g) rfl 2 _ HS2.out)⟩
    have HB1 := Lib.hid hb1
    obtain ⟨c0, c1, c2⟩ := HC.out w1 (Below.refl _ _)
    have HC3 : Hid (ws.length = 4 → w1.cell? ⟨g, 3, none⟩ = some (.string ⟨[102].toArray⟩)) := fun e => ho1.cells (g := g) rfl 3 _ (HS3.out e)
    clear ho1 hb1 HP HS0 HS1 HS2 hg1 hg2 HS3
    by_cases e4 : ws.length = 4
    · have c3 := HC3.out e4
      have i3 : (3 : Int) < (ws.length : Int) := by omega
      have hFt : F = true := by rw [← hff, e4]; rfl
      subst hFt
      clear HC3
      go_wp2_with fail
      refine (HX.out _).mono ?_
      rintro e w2 ⟨rfl, hb2⟩
      have HB2 := Lib.hid (below_next HB1.out hb2)
      have HB12 := Lib.hid hb2
      clear c0 c1 c2 hb2 HX HB1
      obtain ⟨c0, c1, c2⟩ := HC.out _ HB12.out
      go_wp2_with fail
      refine (HY.out _).mono ?_
      rintro e w3 ⟨rfl, hb3⟩
      have HB3 := Lib.hid (below_next HB2.out hb3)
      have HB13 := Lib.hid (below_next HB12.out hb3)
      clear c0 c1 c2 hb3 HY HB2 HB12
      obtain ⟨c0, c1, c2⟩ := HC.out _ HB13.out
      go_wp2_with fail
      refine (HZ.out _).mono ?_
      rintro e w4 ⟨rfl, hb4⟩
      have HB4 := Lib.hid (below_next HB3.out hb4)
      clear c0 c1 c2 hb4 HZ HB3 HB13 HC
      have HW5 : Hid (Below (w.alloc (.cells nilCells 45)).heap.size (w.alloc (.cells nilCells 45)) (w4.alloc (.cells #[.int .i64 X, .int .i64 Y, .int .i64 Z, .bool true] 45))) := below_next HB4.out (below_alloc1 _ _)
      have HBX5 : Hid (BoxP w4.heap.size [.int .i64 X, .int .i64 Y, .int .i64 Z, .bool true] (w4.alloc (.cells #[.int .i64 X, .int .i64 Y, .int .i64 Z, .bool true] 45))) := ((Fr.start w4).alloc #[.int .i64 X, .int .i64 Y, .int .i64 Z, .bool true] 45).at 0 rfl
      by_cases hb : (bx && by' && bz) = true
      · have hR2 : rmS l = if Mt.ok 12 ⟨X, Y, Z, true⟩ = true then (⟨X, Y, Z, true⟩, true) else (Mt.nil, false) := by
          rw [HR.out, hb]
          simp
        simp only [Bool.and_eq_true] at hb
        obtain ⟨⟨rfl, rfl⟩, rfl⟩ := hb
        have HM := Lib.hid (l26Match_c 12 w4.heap.size 0 ⟨X, Y, Z, true⟩ (w4.alloc (.cells #[.int .i64 X, .int .i64 Y, .int .i64 Z, .bool true] 45)) (by omega) (HBX5.out 0 _ rfl) (HBX5.out 1 _ rfl) (HBX5.out 2 _ rfl))
        obtain ⟨T, hT⟩ : ∃ T, T = Mt.ok 12 ⟨X, Y, Z, true⟩ := ⟨_, rfl⟩
        rw [← hT] at HM hR2
        have HR2 := Lib.hid hR2
        clear hT hR2 HR
        go_wp2_with fail
        refine HM.out.mono ?_
        rintro e w5 ⟨rfl, nq, hw5⟩
        have hb5 : Below (w4.alloc (.cells #[.int .i64 X, .int .i64 Y, .int .i64 Z, .bool true] 45)).heap.size (w4.alloc (.cells #[.int .i64 X, .int .i64 Y, .int .i64 Z, .bool true] 45)) w5 := by rw [hw5]; exact below_draws _ _ _
        clear hw5
        have hbx := boxP_keep HBX5.out hb5
        have j0 : w5.cell? ⟨w4.heap.size, 0, none⟩ = some (.int .i64 X) := hbx 0 _ rfl
        have j1 : w5.cell? ⟨w4.heap.size, 1, none⟩ = some (.int .i64 Y) := hbx 1 _ rfl
        have j2 : w5.cell? ⟨w4.heap.size, 2, none⟩ = some (.int .i64 Z) := hbx 2 _ rfl
        have j3 : w5.cell? ⟨w4.heap.size, 3, none⟩ = some (.bool true) := hbx 3 _ rfl
        have HB5 := Lib.hid (below_next HW5.out hb5)
        obtain ⟨⟨k0, k1, k2, k3⟩, kf⟩ := HK.out _ HB5.out
        have HBB := Lib.hid (below_next HB0.out HB5.out)
        clear hb5 HM hbx HBX5 HW5 HK HB4 HB5
        by_cases he : T = true
        · have HF : Hid (rmS l = (⟨X, Y, Z, true⟩, true)) := by unfold Hid; rw [HR2.out, if_pos he]
          clear HR2
          subst he
          go_wp2
          refine bodyPost_ret (v := .tuple #[.agg #[.int .i64 X, .int .i64 Y, .int .i64 Z, .bool true], .bool true]) (by simp [results, Tryd.results24, go_sem, k0, k1, k2, k3]) rfl ⟨by rw [HF.out]; rfl, ?_⟩
          exact (((HBB.out.setCell (Nat.le_refl _) _).setCell (Nat.le_refl _) _).setCell (Nat.le_refl _) _).setCell (Nat.le_refl _) _
        · have HF : Hid (rmS l = (Mt.nil, false)) := by unfold Hid; rw [HR2.out, if_neg he]
          have he2 : T = false := by simpa using he
          subst he2
          clear HR2 he j0 j1 j2 j3
          go_wp2
          refine bodyPost_ret (v := .tuple #[Mt.nil.val, .bool false]) (by simp [results, Tryd.results24, go_sem, Mt.val, Mt.cells, Mt.nil, k0, k1, k2, k3]) rfl ⟨by rw [HF.out], ?_⟩
          exact (((HBB.out.setCell (Nat.le_refl _) _).setCell (Nat.le_refl _) _).setCell (Nat.le_refl _) _).setCell (Nat.le_refl _) _
      · have HF : Hid (rmS l = (Mt.nil, false)) := by unfold Hid; rw [HR.out, if_neg (fun h => hb h.1)]
        have HBB := Lib.hid (below_next HB0.out HW5.out)
        obtain ⟨⟨k0, k1, k2, k3⟩, kf⟩ := HK.out _ HW5.out
        clear HR HBX5 HW5 HK HB4
        cases bx <;> cases by' <;> cases bz
        case true.true.true => exact absurd rfl hb
        all_goals clear hb
        all_goals
          go_wp2
          refine bodyPost_ret (v := .tuple #[Mt.nil.val, .bool false]) (by simp [results, Tryd.results24, go_sem, Mt.val, Mt.cells, Mt.nil, k0, k1, k2, k3]) rfl ⟨by rw [HF.out], ?_⟩
          exact (((HBB.out.setCell (Nat.le_refl _) _).setCell (Nat.le_refl _) _).setCell (Nat.le_refl _) _).setCell (Nat.le_refl _) _
    · have hFt : F = false := by rw [← hff]; simp; omega
      subst hFt
      clear HC3
      go_wp2_with fail
      refine (HX.out _).mono ?_
      rintro e w2 ⟨rfl, hb2⟩
      have HB2 := Lib.hid (below_next HB1.out hb2)
      have HB12 := Lib.hid hb2
      clear c0 c1 c2 hb2 HX HB1
      obtain ⟨c0, c1, c2⟩ := HC.out _ HB12.out
      go_wp2_with fail
      refine (HY.out _).mono ?_
      rintro e w3 ⟨rfl, hb3⟩
      have HB3 := Lib.hid (below_next HB2.out hb3)
      have HB13 := Lib.hid (below_next HB12.out hb3)
      clear c0 c1 c2 hb3 HY HB2 HB12
      obtain ⟨c0, c1, c2⟩ := HC.out _ HB13.out
      go_wp2_with fail
      refine (HZ.out _).mono ?_
      rintro e w4 ⟨rfl, hb4⟩
      have HB4 := Lib.hid (below_next HB3.out hb4)
      clear c0 c1 c2 hb4 HZ HB3 HB13 HC
      have HW5 : Hid (Below (w.alloc (.cells nilCells 45)).heap.size (w.alloc (.cells nilCells 45)) (w4.alloc (.cells #[.int .i64 X, .int .i64 Y, .int .i64 Z, .bool false] 45))) := below_next HB4.out (below_alloc1 _ _)
      have HBX5 : Hid (BoxP w4.heap.size [.int .i64 X, .int .i64 Y, .int .i64 Z, .bool false] (w4.alloc (.cells #[.int .i64 X, .int .i64 Y, .int .i64 Z, .bool false] 45))) := ((Fr.start w4).alloc #[.int .i64 X, .int .i64 Y, .int .i64 Z, .bool false] 45).at 0 rfl
      by_cases hb : (bx && by' && bz) = true
      · have hR2 : rmS l = if Mt.ok 12 ⟨X, Y, Z, false⟩ = true then (⟨X, Y, Z, false⟩, true) else (Mt.nil, false) := by
          rw [HR.out, hb]
          simp
        simp only [Bool.and_eq_true] at hb
        obtain ⟨⟨rfl, rfl⟩, rfl⟩ := hb
        have HM := Lib.hid (l26Match_c 12 w4.heap.size 0 ⟨X, Y, Z, false⟩ (w4.alloc (.cells #[.int .i64 X, .int .i64 Y, .int .i64 Z, .bool false] 45)) (by omega) (HBX5.out 0 _ rfl) (HBX5.out 1 _ rfl) (HBX5.out 2 _ rfl))
        obtain ⟨T, hT⟩ : ∃ T, T = Mt.ok 12 ⟨X, Y, Z, false⟩ := ⟨_, rfl⟩
        rw [← hT] at HM hR2
        have HR2 := Lib.hid hR2
        clear hT hR2 HR
        go_wp2_with fail
        refine HM.out.mono ?_
        rintro e w5 ⟨rfl, nq, hw5⟩
        have hb5 : Below (w4.alloc (.cells #[.int .i64 X, .int .i64 Y, .int .i64 Z, .bool false] 45)).heap.size (w4.alloc (.cells #[.int .i64 X, .int .i64 Y, .int .i64 Z, .bool false] 45)) w5 := by rw [hw5]; exact below_draws _ _ _
        clear hw5
        have hbx := boxP_keep HBX5.out hb5
        have j0 : w5.cell? ⟨w4.heap.size, 0, none⟩ = some (.int .i64 X) := hbx 0 _ rfl
        have j1 : w5.cell? ⟨w4.heap.size, 1, none⟩ = some (.int .i64 Y) := hbx 1 _ rfl
        have j2 : w5.cell? ⟨w4.heap.size, 2, none⟩ = some (.int .i64 Z) := hbx 2 _ rfl
        have j3 : w5.cell? ⟨w4.heap.size, 3, none⟩ = some (.bool false) := hbx 3 _ rfl
        have HB5 := Lib.hid (below_next HW5.out hb5)
        obtain ⟨⟨k0, k1, k2, k3⟩, kf⟩ := HK.out _ HB5.out
        have HBB := Lib.hid (below_next HB0.out HB5.out)
        clear hb5 HM hbx HBX5 HW5 HK HB4 HB5
        by_cases he : T = true
        · have HF : Hid (rmS l = (⟨X, Y, Z, false⟩, true)) := by unfold Hid; rw [HR2.out, if_pos he]
          clear HR2
          subst he
          go_wp2
          refine bodyPost_ret (v := .tuple #[.agg #[.int .i64 X, .int .i64 Y, .int .i64 Z, .bool false], .bool true]) (by simp [results, Tryd.results24, go_sem, k0, k1, k2, k3]) rfl ⟨by rw [HF.out]; rfl, ?_⟩
          exact (((HBB.out.setCell (Nat.le_refl _) _).setCell (Nat.le_refl _) _).setCell (Nat.le_refl _) _).setCell (Nat.le_refl _) _
        · have HF : Hid (rmS l = (Mt.nil, false)) := by unfold Hid; rw [HR2.out, if_neg he]
          have he2 : T = false := by simpa using he
          subst he2
          clear HR2 he j0 j1 j2 j3
          go_wp2
          refine bodyPost_ret (v := .tuple #[Mt.nil.val, .bool false]) (by simp [results, Tryd.results24, go_sem, Mt.val, Mt.cells, Mt.nil, k0, k1, k2, k3]) rfl ⟨by rw [HF.out], ?_⟩
          exact (((HBB.out.setCell (Nat.le_refl _) _).setCell (Nat.le_refl _) _).setCell (Nat.le_refl _) _).setCell (Nat.le_refl _) _
      · have HF : Hid (rmS l = (Mt.nil, false)) := by unfold Hid; rw [HR.out, if_neg (fun h => hb h.1)]
        have HBB := Lib.hid (below_next HB0.out HW5.out)
        obtain ⟨⟨k0, k1, k2, k3⟩, kf⟩ := HK.out _ HW5.out
        clear HR HBX5 HW5 HK HB4
        cases bx <;> cases by' <;> cases bz
        case true.true.true => exact absurd rfl hb
        all_goals clear hb
        all_goals
          go_wp2
          refine bodyPost_ret (v := .tuple #[Mt.nil.val, .bool false]) (by simp [results, Tryd.results24, go_sem, Mt.val, Mt.cells, Mt.nil, k0, k1, k2, k3]) rfl ⟨by rw [HF.out], ?_⟩
          exact (((HBB.out.setCell (Nat.le_refl _) _).setCell (Nat.le_refl _) _).setCell (Nat.le_refl _) _).setCell (Nat.le_refl _) _

end Go.Proofs.YtbjgigdkbjabaaaDoor
