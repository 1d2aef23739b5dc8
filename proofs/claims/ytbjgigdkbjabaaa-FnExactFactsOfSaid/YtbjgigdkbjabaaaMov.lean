/- Mov: a move is sown: the program's functions. Each contract holds for every argument, under the premises that it states. -/
import Derived.Test.YtbjgigdkbjabaaaCapP
import Derived.Test.YtbjgigdkbjabaaaNew
import Derived.Test.YtbjgigdkbjabaaaPos2
namespace Go.Proofs.Ytbjgigdkbjabaaa
set_option linter.unusedSimpArgs false
set_option linter.unusedVariables false
set_option linter.unnecessarySimpa false
open Go.RowKit Go.ChangeShapes Go.WideShapes Go.ChangeAt Go.Joins

/-- what a move leaves -/
def MoveRes (base sb pg pc sg sc : Nat) (r : R) (pn : Nat) (o : Option (Lap × Int)) (w : World) (e : Ending) (w' : World) : Prop :=
  (o = none ∧ e = .returned (.bool false) ∧ Below base w w') ∨ ∃ L n ta' tc', o = some (L, n) ∧ e = .returned (.bool true) ∧ SnI base w' sb 10 pg pc sg sc L.pits L.stores ∧ Fld w' sb 10 L.last n ∧
    SwF w' sb r pn ta' L.path.length tc' ∧ OwnI w' base ta' tc' L.path ∧ TAp ta' L.path.length tc' sb pg sg ∧ Below base w w'
/-- a round of a move -/
structure MvSt (base : Nat) (w wr : World) (sb pg pc sg sc : Nat) (r : R) (pn : Nat) (tot : Int) (o : Option (Lap × Int)) (k fn : Nat) (P S T : List Int) (last : Int) (ta : Option Addr) (tc : Nat) : Prop where
  go : sowGo r pn k (lapP r pn fn P S T) = o
  k1 : k ≤ 99
  pt : (T.length : Int) + (k + 1) * tot ≤ 1000000000
  bd : Brd r P S tot
  hf : fn < P.length
  sn : SnI base wr sb 10 pg pc sg sc P S
  fl : Fld wr sb 10 last (99 - k)
  sw : SwF wr sb r pn ta T.length tc
  ow : OwnI wr base ta tc T
  ap : TAp ta T.length tc sb pg sg
  bl : Below base w wr
def lapsLeft (w : World) (sb : Nat) : Nat := 100 - (intOf ((w.cell? ⟨sb, 13, none⟩).getD (.int .i64 0))).toNat
theorem Fld.left {w : World} {sb : Nat} {last n : Int} (h : Fld w sb 10 last n) : lapsLeft w sb = 100 - n.toNat := by
  unfold lapsLeft; rw [h.c3]; rfl
set_option maxRecDepth 100000 in
set_option maxHeartbeats 8000000 in
theorem move_c (base sb pg pc sg sc : Nat) (r : R) (hb : r.Bd) (pn fn : Nat) (P S : List Int) (tot : Int) (last : Int) (ta : Option Addr) (tc : Nat) (w : World)
    (hS : SnI base w sb 10 pg pc sg sc P S) (hF : Fld w sb 10 last 0) (hW : SwF w sb r pn ta 0 tc)
    (hT : OwnI w base ta tc []) (hTA : TAp ta 0 tc sb pg sg) (hpn : pn ≤ 1) (hB : Brd r P S tot) (htot : tot ≤ 1000000) (hfn : fn < P.length) :
    Calls Try.prog 194 #[.pointer (some ⟨sb, 0, none⟩), .int .i64 (fn : Int)] w (MoveRes base sb pg pc sg sc r pn (sowP r pn fn P S) w) := by
  have ht0 : 0 ≤ tot := by have := nn_sum hB.np; have := nn_sum hB.ns; have := hB.sm; omega
  have hst : Hid (MvSt base w w sb pg pc sg sc r pn tot (sowP r pn fn P S) 99 fn P S [] last ta tc) :=
    ⟨rfl, by omega, by simp; omega, hB, hfn, hS, by simpa using hF, hW, hT, hTA, Below.refl _ _⟩
  obtain ⟨o, ho⟩ : ∃ o, o = sowP r pn fn P S := ⟨_, rfl⟩
  rw [← ho] at hst ⊢
  clear hS hF hW hT hTA hB ho
  go_enter Try.func194, Try.ntmps194
  go_wp2
  go_loopw [1] (fun f wr => ∃ (k fn : Nat) (P S T : List Int) (last : Int) (ta : Option Addr) (tc : Nat), f = .int .i64 fn ∧ MvSt base w wr sb pg pc sg sc r pn tot o k fn P S T last ta tc) (fun _ wr => lapsLeft wr sb)
  case atStart => exact ⟨99, fn, _, _, _, _, _, _, rfl, hst.out⟩
  case round =>
    clear hst
    obtain ⟨k, fn, P, S, T, last, ta, tc, rfl, hst⟩ := hrel
    have HST := Lib.hid hst
    have hk := hst.k1
    have hfn := hst.hf
    have hsb : sb < wr.heap.size := hst.sn.lt
    have hlp := (hst.bd).lp
    have hTl : T.length ≤ 1000000000 := by
      have := hst.pt
      have : 0 ≤ ((k : Int) + 1) * tot := Int.mul_nonneg (by omega) ht0
      omega
    have hLB := lapP_brd hb pn fn ⟨by omega, by omega⟩ P S T tot hst.bd hfn
    have hle := hst.bd.bp (Int.le_refl tot) _ (List.getElem_mem hfn)
    have hpt := hst.pt
    have HLC := Lib.hid (lap_c base sb pg pc sg sc r hb pn fn P S T last (99 - k) ta tc _ hst.sn hst.fl hst.sw hst.ow hst.ap hpn hlp hst.bd.ls hfn (hst.bd.bp (by omega)) (hst.bd.bs (by omega)) hTl ⟨by omega, by omega⟩)
    obtain ⟨L, hL⟩ : ∃ L, L = lapP r pn fn P S T := ⟨_, rfl⟩
    have hgo := hst.go
    have hbl := hst.bl
    have hleft := hst.fl.left
    rw [← hL] at HLC hLB hgo
    obtain ⟨hB1, hB2, hB3⟩ := hLB
    have HG := Lib.hid (show L.path.length + k * tot ≤ 1000000000 from by
      have e : ((k : Int) + 1) * tot = k * tot + tot := by rw [Int.add_mul]; simp
      omega)
    have HLEFT := Lib.hid hleft
    clear hst hpt hleft hL HST hlp
    have HB1 := Lib.hid hB1
    have HB3 := Lib.hid hB3
    have HBL := Lib.hid hbl
    clear hB1 hB2 hB3 hbl
    cases hm : moreP r L
    · have HGO := Lib.hid (show o = some (L, (100 : Int) - (k : Int)) from by
        cases k with
        | zero => simp [sowGo, hm] at hgo; simpa using hgo.symm
        | succ k => simp [sowGo, hm] at hgo; rw [← hgo]; congr 2; omega)
      clear hgo
      go_wp2_with (go_at_call 122; refine HLC.out.mono ?_; rintro e w1 ⟨ta1, tc1, he, hs1, hf1, hw1, ho1, ha1, hb1⟩; rw [hm] at he; subst he)
      go_ret
      refine .inr ⟨L, _, ta1, tc1, HGO.out, rfl, hs1, ?_, hw1, ho1, ha1, HBL.out.trans hb1⟩
      have e : (99 - (k : Int) + 1) = 100 - k := by omega
      rw [← e]; exact hf1
    · have hl0 := moreP_last hm
      obtain ⟨gn, hgn⟩ : ∃ gn : Nat, L.last = gn := ⟨L.last.toNat, by omega⟩
      by_cases hk0 : k = 0
      · subst hk0
        have HGO := Lib.hid (show o = none from by simp [sowGo, hm] at hgo; exact hgo.symm)
        clear hgo
        go_wp2_with (go_at_call 122; refine HLC.out.mono ?_; rintro e w1 ⟨ta1, tc1, he, hs1, hf1, hw1, ho1, ha1, hb1⟩; rw [hm] at he; subst he; have hx := hf1.c3; simp only [Nat.reduceAdd, Int.natCast_zero, Int.sub_zero, Int.reduceAdd] at hx; clear hs1 hf1 hw1 ho1 ha1; have HBB := Lib.hid hb1; clear hb1)
        go_ret
        exact .inl ⟨HGO.out, rfl, HBL.out.trans HBB.out⟩
      · obtain ⟨k', rfl⟩ : ∃ k', k = k' + 1 := ⟨k - 1, by omega⟩
        have HGO := Lib.hid (show sowGo r pn k' (lapP r pn gn L.pits L.stores L.path) = o from by
          simp only [sowGo, hm, if_true] at hgo
          rw [← hgn]; exact hgo)
        have hgf : gn < L.pits.length := by
          have := HB1.out.lp
          rcases HB3.out with h | h <;> omega
        clear hgo
        go_wp2_with (go_at_call 122; refine HLC.out.mono ?_; rintro e w1 ⟨ta1, tc1, he, hs1, hf1, hw1, ho1, ha1, hb1⟩; rw [hm] at he; subst he; have hx := hf1.c3; have hy := hf1.c2; rw [hgn] at hy; simp only [Nat.reduceAdd] at hx hy; have hne : ((99 - ((k' + 1 : Nat) : Int) + 1) == 100) = false := (by rw [beq_eq_false_iff_ne]; omega); have HBB := Lib.hid hb1; clear hb1; have HS1 := Lib.hid hs1; clear hs1)
        go_roundw
        case rel =>
          refine ⟨k', gn, L.pits, L.stores, L.path, L.last, ta1, tc1, rfl, HGO.out, by omega, ?_, HB1.out, hgf, HS1.out, ?_, hw1, ho1, ha1, HBL.out.trans HBB.out⟩
          · have := HG.out; push_cast at this; exact this
          · have e : (99 - ((k' + 1 : Nat) : Int) + 1) = 99 - k' := by omega
            rw [← e]; exact hf1
        case measure =>
          have h1 := hf1.left
          have h2 := HLEFT.out
          rw [h1, h2]
          omega

set_option maxHeartbeats 1000000 in
theorem isMove_c (r : R) (m : Int) (w : World) (hb : r.Bd) : Calls Try.prog 198 #[r.val, .int .i64 m] w fun e w' => e = .returned (.bool (inB m 0 (r.pits - 1))) ∧ Below w.heap.size w w' := by
  obtain ⟨lo, hi⟩ := hb
  go_enter Try.func198, Try.ntmps198
  go_wp2_with (go_at_call 76; refine (between_c _ _ _ _).mono ?_; rintro e w' ⟨rfl, rfl⟩)
  go_ret
  exact ⟨rfl, below_alloc1 _ _⟩

set_option maxHeartbeats 1000000 in
theorem pitOf_c (r : R) (pn : Nat) (m : Int) (w : World) (hb : r.Bd) (hp : pn ≤ 1) (hm : -1000 ≤ m ∧ m ≤ 1000) : Calls Try.prog 121 #[r.val, .int .i64 pn, .int .i64 m] w fun e w' => e = .returned (.int .i64 (pn * r.pits + m)) ∧ Below w.heap.size w w' := by
  obtain ⟨lo, hi⟩ := hb
  obtain ⟨m0, m1⟩ := hm
  have hm1 : 0 ≤ (pn : Int) * r.pits := Int.mul_nonneg (by omega) (by omega)
  have hm2 : (pn : Int) * r.pits ≤ 8 := by
    have := Int.mul_le_mul (a := (pn : Int)) (b := r.pits) (c := 1) (d := 8) (by omega) hi (by omega) (by omega)
    omega
  go_enter Try.func121, Try.ntmps121
  go_wp2
  go_ret
  exact ⟨rfl, below_alloc1 _ _⟩

end Go.Proofs.Ytbjgigdkbjabaaa
