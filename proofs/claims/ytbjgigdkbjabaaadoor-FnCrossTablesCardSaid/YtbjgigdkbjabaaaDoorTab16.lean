/- Tab16: meetings that are drawn: rounds of a round robin. Each contract holds for every argument, under the premises that it states. -/
import Derived.Test.YtbjgigdkbjabaaaDoorTab1
import Derived.Test.YtbjgigdkbjabaaaDoorSets
namespace Go.Proofs.YtbjgigdkbjabaaaDoor
set_option linter.unusedSimpArgs false
set_option linter.unusedVariables false
set_option linter.unnecessarySimpa false
open Go.RowKit Go.ChangeShapes Go.WideShapes Go.ChangeAt Go.Joins

structure Mg where
  a : Int
  b : Int
@[go_sem] def Mg.cells (x : Mg) : Array Value := #[.int .i64 x.a, .int .i64 x.b]
@[go_sem] def Mg.val (x : Mg) : Value := .agg x.cells
def mgF (x : Mg) : List Value := x.cells.toList
theorem mgF_len (x : Mg) : (mgF x).length = 2 := rfl
theorem infoMg : (Tryd.prog.info? 122).map (fun i => (i.zero, i.size, i.bytes)) = some (some (.agg #[.int .i64 0, .int .i64 0]), 2, 16) := by kernel_rfl
theorem info_partsMg {e : TypeId} {z : Value} {size bytes : Nat} (h : (Tryd.prog.info? e).map (fun i => (i.zero, i.size, i.bytes)) = some (some z, size, bytes)) :
    ∃ i, Tryd.prog.info? e = some i ∧ i.zero = some z ∧ i.size = size ∧ i.bytes = bytes := by
  obtain ⟨i, h1, h2⟩ := Option.map_eq_some_iff.1 h
  simp only [Prod.mk.injEq] at h2
  exact ⟨i, h1, h2.1, h2.2.1, h2.2.2⟩
/-- meetings of the call's own -/
@[reducible] def MgO (w : World) (base g n c : Nat) (l : List Mg) : Prop := w.ownsRow base 122 2 (.slice (some ⟨g, 0, none⟩) n c) n (flat mgF l)
theorem mg_oneCell : ∀ (l : List Mg), ∀ u ∈ flat mgF l, u.oneCell' = true
  | [], u, hu => by cases hu
  | x :: l, u, hu => by
    rw [flat] at hu
    rcases List.mem_append.1 hu with hu | hu
    · simp [mgF, Mg.cells] at hu
      rcases hu with rfl | rfl <;> rfl
    · exact mg_oneCell l u hu
theorem own_chg {lo hi base : Nat} {e : TypeId} {size n : Nat} {v : Value} {vs : List Value} {w w' : World} (h : w.ownsRow base e size v n vs) (hc : Chg lo hi w w') (hb : hi ≤ base) : w'.ownsRow base e size v n vs :=
  own_same h (fun k hk => hc.block k (h.lt k hk).2 (.inr (by have := (h.lt k hk).1; omega)))
theorem Chg.grown {lo hi : Nat} {w0 w1 w2 : World} {row : Option Nat} (h : Chg lo hi w0 w1) (hg : w1.grownBy w2 row) (hr : ∀ k, row = some k → w0.heap.size ≤ k) : Chg lo hi w0 w2 :=
  ⟨hg.os.trans h.os, hg.tape.trans h.tape, hg.output.trans h.output, Nat.le_trans h.size hg.size, fun k hk hn => (hg.block k (Nat.lt_of_lt_of_le hk h.size) (fun e => by have := hr k e.symm; omega)).trans (h.block k hk hn)⟩
theorem Chg.allocT {lo hi : Nat} {w w' : World} (h : Chg lo hi w w') (xs : Array Value) (t : TypeId) : Chg lo hi w (w'.alloc (.cells xs t)) := h.trans (Chg.ofBelow (below_alloc1 _ _))
theorem SrcP.grown {base b m : Nat} {w w' : World} {row : Option Nat} (h : SrcP base b m w) (hg : w.grownBy w' row) (hr : ∀ k, row = some k → b < k) : SrcP base b m w' := by
  have hl := h.lt
  refine h.chg (lo := b + 1) (hi := w.heap.size) (w' := w') ⟨hg.os, hg.tape, hg.output, hg.size, fun k hk hn => hg.block k hk (fun e => ?_)⟩ (by omega) (.inl (by omega))
  have := hr k e.symm
  omega

def rndP (n : Int) : Int := n - 1 + n % 2
theorem l24Rounds_c (n : Int) (w : World) (hn : 0 ≤ n ∧ n ≤ 100) : Calls Tryd.prog 99 #[.int .i64 n] w fun e w' => e = .returned (.int .i64 (rndP n)) ∧ w = w' := by
  have ht : n.tmod 2 = n % 2 := Int.tmod_eq_emod_of_nonneg hn.1
  have hw1 : IntKind.i64.wrap (n - 1) = n - 1 := IntWalk.i64_in _ (by omega)
  have hw2 : IntKind.i64.wrap (n % 2) = n % 2 := IntWalk.i64_in _ (by omega)
  have hw3 : IntKind.i64.wrap (n - 1 + n % 2) = n - 1 + n % 2 := IntWalk.i64_in _ (by omega)
  have HE : Hid (rndP n = n - 1 + n % 2) := rfl
  go_enter Tryd.func99, Tryd.ntmps99
  go_wp2
  go_ret
  exact ⟨by rw [HE.out]; simp, rfl⟩
theorem rndP_bd {n : Int} (h : 2 ≤ n ∧ n ≤ 12) : 1 ≤ rndP n ∧ rndP n ≤ 11 := by unfold rndP; omega

theorem l24Code_c (n rd : Int) (w : World) (hn : 2 ≤ n ∧ n ≤ 12) (hr : 0 ≤ rd ∧ rd ≤ rndP n - 1) : Calls Tryd.prog 103 #[.int .i64 n, .int .i64 rd] w fun e w' => e = .returned (.int .i64 0) ∧ w = w' := by
  have HP := Lib.hid (l24Players_c n)
  have h1 : inB n 2 12 = true := inB_iff.2 hn
  rw [h1] at HP
  have HR := Lib.hid (fun w => l24Rounds_c n w (by omega))
  have hb := rndP_bd hn
  obtain ⟨M, hM⟩ : ∃ M, M = rndP n := ⟨_, rfl⟩
  rw [← hM] at HR hb hr
  have hw1 : IntKind.i64.wrap (M - 1) = M - 1 := IntWalk.i64_in _ (by omega)
  have HI := Lib.hid (l00In_c rd 0 (M - 1))
  have h2 : inB rd 0 (M - 1) = true := inB_iff.2 hr
  rw [h2] at HI
  clear h1 h2 hM hb hn hr
  go_enter Tryd.func103, Tryd.ntmps103
  go_wp2_with fail
  refine (HP.out _).mono ?_
  rintro e w1 ⟨rfl, rfl⟩
  go_wp2_with fail
  refine (HR.out _).mono ?_
  rintro e w1 ⟨rfl, rfl⟩
  go_wp2_with fail
  refine (HI.out _).mono ?_
  rintro e w1 ⟨rfl, rfl⟩
  go_wp2
  go_ret
  exact ⟨rfl, rfl⟩

theorem l24Other_c (n rd pl : Int) (w : World) (hn : 2 ≤ n ∧ n ≤ 12) (hr : 0 ≤ rd ∧ rd ≤ 20) (hp : 0 ≤ pl ∧ pl ≤ 20) : Calls Tryd.prog 104 #[.int .i64 n, .int .i64 rd, .int .i64 pl] w fun e w' => (∃ v : Int, e = .returned (.int .i64 v)) ∧ w = w' := by
  have HR := Lib.hid (fun w => l24Rounds_c n w (by omega))
  have hb := rndP_bd hn
  obtain ⟨M, hM⟩ : ∃ M, M = rndP n := ⟨_, rfl⟩
  rw [← hM] at HR hb
  clear hM
  have hM0 : ¬ M = 0 := by omega
  have hw1 : IntKind.i64.wrap (rd - pl) = rd - pl := IntWalk.i64_in _ (by omega)
  have hw2 : IntKind.i64.wrap (rd - pl + M) = rd - pl + M := IntWalk.i64_in _ (by omega)
  have HM := Lib.hid hb
  go_enter Tryd.func104, Tryd.ntmps104
  go_wp2_with fail
  refine (HR.out _).mono ?_
  rintro e w1 ⟨rfl, rfl⟩
  by_cases hpm : pl = M
  · subst hpm
    go_wp2_with fail
    go_loopw [8] (fun i wr => ∃ (k : Nat), i = .int .i64 (k : Int) ∧ (k : Int) ≤ pl ∧ Hid (w = wr)) (fun i _ => (pl - intOf i).toNat)
    case atStart => exact ⟨0, rfl, by omega, Lib.hid rfl⟩
    case round =>
      obtain ⟨k, rfl, hk1, HW⟩ := hrel
      have hw3 : IntKind.i64.wrap (2 * (k : Int)) = 2 * (k : Int) := IntWalk.i64_in _ (by omega)
      have hw4 : IntKind.i64.wrap ((k : Int) + 1) = (k : Int) + 1 := IntWalk.i64_in _ (by omega)
      by_cases hlt : (k : Int) < pl
      · by_cases hq : (2 * (k : Int)) % pl = rd
        · go_wp2
          all_goals (go_ret; exact ⟨⟨_, rfl⟩, HW.out⟩)
        · have hq2 : ((2 * (k : Int)) % pl == rd) = false := by simpa using hq
          clear hq
          go_wp2
          go_roundw
          case rel => exact ⟨k + 1, by go_num, by omega, HW⟩
          case measure => simp [intOf]; omega
      · go_wp2
        all_goals (go_ret; exact ⟨⟨_, rfl⟩, HW.out⟩)
  · go_wp2
    all_goals (go_ret; exact ⟨⟨_, rfl⟩, rfl⟩)

theorem l24First_c (n rd a b : Int) (w : World) (hn : 2 ≤ n ∧ n ≤ 12) : Calls Tryd.prog 106 #[.int .i64 n, .int .i64 rd, .int .i64 a, .int .i64 b] w fun e w' => (∃ v : Bool, e = .returned (.bool v)) ∧ w = w' := by
  have HR := Lib.hid (fun w => l24Rounds_c n w (by omega))
  obtain ⟨M, hM⟩ : ∃ M, M = rndP n := ⟨_, rfl⟩
  rw [← hM] at HR
  clear hM
  go_enter Tryd.func106, Tryd.ntmps106
  go_wp2_with fail
  refine (HR.out _).mono ?_
  rintro e w1 ⟨rfl, rfl⟩
  go_wp2
  all_goals (go_ret; exact ⟨⟨_, rfl⟩, rfl⟩)

set_option maxHeartbeats 4000000 in
theorem l24Meet_c (n rd a b : Int) (w : World) (hn : 2 ≤ n ∧ n ≤ 12) : Calls Tryd.prog 105 #[.int .i64 n, .int .i64 rd, .int .i64 a, .int .i64 b] w fun e w' => (∃ x : Mg, e = .returned x.val) ∧ Below w.heap.size w w' := by
  have HB := Lib.hid (below_alloc1 w (.cells #[.int .i64 0, .int .i64 0] 122))
  have HF : Hid (∀ (x y : Int) W, Calls Tryd.prog 106 #[.int .i64 n, .int .i64 rd, .int .i64 x, .int .i64 y] W fun e w' => (∃ v : Bool, e = .returned (.bool v)) ∧ W = w') := fun x y W => l24First_c n rd x y W hn
  clear hn
  go_enter Tryd.func105, Tryd.ntmps105
  by_cases hab : b < a
  · go_wp2_with fail
    refine (HF.out _ _ _).mono ?_
    rintro e w1 ⟨⟨v, rfl⟩, rfl⟩
    cases v
    · go_wp2
      exact bodyPost_ret (v := (Mg.mk a b).val) (by simp [results, Tryd.results105, go_sem]) rfl ⟨⟨_, rfl⟩, below_alloc1 _ _⟩
    · go_wp2
      exact bodyPost_ret (v := (Mg.mk b a).val) (by simp [results, Tryd.results105, go_sem]) rfl ⟨⟨_, rfl⟩, below_alloc1 _ _⟩
  · go_wp2_with fail
    refine (HF.out _ _ _).mono ?_
    rintro e w1 ⟨⟨v, rfl⟩, rfl⟩
    cases v
    · go_wp2
      exact bodyPost_ret (v := (Mg.mk b a).val) (by simp [results, Tryd.results105, go_sem]) rfl ⟨⟨_, rfl⟩, below_alloc1 _ _⟩
    · go_wp2
      exact bodyPost_ret (v := (Mg.mk a b).val) (by simp [results, Tryd.results105, go_sem]) rfl ⟨⟨_, rfl⟩, below_alloc1 _ _⟩

set_option maxRecDepth 100000 in
set_option maxHeartbeats 8000000 in
theorem RoundRobin_c (n rd : Int) (w : World) (hn : 2 ≤ n ∧ n ≤ 12) (hr : 0 ≤ rd ∧ rd ≤ rndP n - 1) :
    Calls Tryd.prog 100 #[.int .i64 n, .int .i64 rd] w fun e w' => ∃ (g c : Nat) (l : List Mg), e = .returned (.tuple #[.slice (some ⟨g, 0, none⟩) l.length c, .int .i64 0]) ∧ l.length ≤ 12 ∧ MgO w' w.heap.size g l.length c l ∧ Below w.heap.size w w' := by
  obtain ⟨i0, hi, hz0, hz1, hz2⟩ := info_partsMg infoMg
  have HC := Lib.hid (l24Code_c n rd w hn hr)
  have hb := rndP_bd hn
  have HOT : Hid (∀ (pl : Int) W, 0 ≤ pl ∧ pl ≤ 20 → Calls Tryd.prog 104 #[.int .i64 n, .int .i64 rd, .int .i64 pl] W fun e w' => (∃ v : Int, e = .returned (.int .i64 v)) ∧ W = w') := fun pl W hp => l24Other_c n rd pl W hn (by omega) hp
  have HMT : Hid (∀ (x y : Int) W, Calls Tryd.prog 105 #[.int .i64 n, .int .i64 rd, .int .i64 x, .int .i64 y] W fun e w' => (∃ x : Mg, e = .returned x.val) ∧ Below W.heap.size W w') := fun x y W => l24Meet_c n rd x y W hn
  have HB0 := Lib.hid (below_alloc1 w (.cells #[] 122))
  have HO0 : Hid (MgO (w.alloc (.cells #[] 122)) w.heap.size w.heap.size 0 0 []) := World.ownsRow_lit (base := w.heap.size) (e := 122) (size := 2) w #[] 0 (Nat.le_refl _) (Nat.zero_le _) rfl
  have HNN := Lib.hid hn
  clear hr hb hn
  go_enter Tryd.func100, Tryd.ntmps100
  go_wp2_with fail
  refine HC.out.mono ?_
  rintro e w1 ⟨rfl, rfl⟩
  clear HC
  go_upto_region 6 with fail
  go_loopw [7, 8] (fun s i wr => ∃ (k m g c : Nat) (l : List Mg), i = .int .i64 (k : Int) ∧ s = .slice (some ⟨g, 0, none⟩) m c ∧ (k : Int) ≤ n ∧ m ≤ k ∧ l.length = m ∧ Hid (MgO wr w.heap.size g m c l) ∧ Hid (Below w.heap.size w wr)) (fun _ i _ => (n - intOf i).toNat)
  case atStart => exact ⟨0, 0, _, _, [], rfl, rfl, by have := HNN.out; omega, Nat.le_refl _, rfl, HO0, HB0⟩
  case round =>
    clear HO0 HB0
    obtain ⟨k, m, g, c, l, rfl, rfl, hk, hmk, hlm, HO, HB⟩ := hrel
    have hNN := HNN.out
    by_cases hlt : (k : Int) < n
    · have hw4 : IntKind.i64.wrap ((k : Int) + 1) = (k : Int) + 1 := IntWalk.i64_in _ (by omega)
      go_wp2_with fail
      refine (HOT.out _ _ (by omega)).mono ?_
      rintro e w1 ⟨⟨v, rfl⟩, rfl⟩
      by_cases hv : (k : Int) < v
      · go_wp2_with fail
        refine (HMT.out _ _ _).mono ?_
        rintro e w2 ⟨⟨x, rfl⟩, hb2⟩
        have HBX : Hid (BoxP w2.heap.size (Mg.cells x).toList (w2.alloc (.cells (Mg.cells x) 122))) := ((Fr.start w2).alloc (Mg.cells x) 122).at 0 rfl
        have HBA := Lib.hid (below_next (below_next HB.out hb2) (below_alloc1 w2 (.cells (Mg.cells x) 122)))
        have HOW : Hid (MgO (w2.alloc (.cells (Mg.cells x) 122)) w.heap.size g m c l) := own_below HO.out (below_next hb2 (below_alloc1 _ _)) (Nat.le_refl _)
        have HLM := Lib.hid hlm
        clear HO HB hb2 hlm
        go_wp2_with (at_builtin; refine wpList_append_own2 _ rfl _ _ 119 rfl w.heap.size 122 i0 (.agg #[.int .i64 0, .int .i64 0]) 2 16 Tryd.underlying119 hi hz0 hz1 hz2 rfl (by decide) (.slice (some ⟨g, 0, none⟩) m c) m (flat mgF l) rfl HOW.out ⟨w2.heap.size, 0, none⟩ 1 1 (Mg.cells x).toList rfl rfl (fun j u hu => by rw [addr_addT, Nat.zero_add]; exact HBX.out j u hu) (by intro u hu; simp [Mg.cells] at hu; rcases hu with rfl | rfl <;> rfl) (by unfold maxLen; omega) (by omega) (HBA.out.size) ?_)
        intro ad6 c6 w6 ho6 hg6 hn6
        obtain ⟨g6, rfl, _, _⟩ := own_lt_n ho6 (by omega)
        have HO6 : Hid (MgO w6 w.heap.size g6 (m + 1) c6 (l ++ [x])) := by
          unfold Hid MgO
          rw [flat_append, flat_one]
          exact ho6
        have HB6 := Lib.hid (below_grown HBA.out hg6 (fun q hq => (HOW.out.lt q hq).1))
        clear ho6 hg6 hn6 HOW HBX
        go_wp2
        go_roundw
        case rel => exact ⟨k + 1, m + 1, g6, c6, l ++ [x], by go_num, rfl, by omega, by omega, by rw [List.length_append, HLM.out]; rfl, HO6, HB6⟩
        case measure => simp [intOf]; omega
      · go_wp2
        go_roundw
        case rel => exact ⟨k + 1, m, g, c, l, by go_num, rfl, by omega, by omega, hlm, HO, HB⟩
        case measure => simp [intOf]; omega
    · go_wp2
      go_ret2
      subst hlm
      exact ⟨g, c, l, rfl, by omega, HO.out, HB.out⟩

end Go.Proofs.YtbjgigdkbjabaaaDoor
