/- PfxM: lists of rows of numbers: the law's own functions that compare, mark and read them. Each contract holds for every argument, under the premises that it states. -/
import Derived.Test.YtbjdfgfebepacaaPfxS
namespace Go.Proofs.Ytbjdfgfebepacaa
set_option linter.unusedSimpArgs false
set_option linter.unusedVariables false
set_option linter.unnecessarySimpa false
open Go.RowKit Go.ChangeShapes Go.WideShapes Go.ChangeAt Go.Joins

/-- what reading such a list needs -/
structure QRows (w : World) (a : Option Addr) (l : List (List Int × QA)) : Prop where
  row : Row w a (flat rowRL.f l)
  items : ∀ x ∈ l, Ints w x.2.qa x.1
theorem QRows.below {B : Nat} {w w' : World} {a : Option Addr} {l : List (List Int × QA)} (h : QRows w a l) (hb : Below B w w') (hB : w.heap.size ≤ B) : QRows w' a l := ⟨h.row.below hb hB, fun x hx => (h.items x hx).below hb hB⟩
theorem pcs_qrows {w : World} {lo hi c : Nat} {ad : Option Addr} {l : List (List Int × QA)} (h : PcsP lo hi (rowRL.pcs ad c l) w) : QRows w ad l :=
  ⟨own_row (RL.main h), fun x hx => own_row (RL.row h hx (q := pieceI x.2.qa x.2.qc x.1) (List.mem_cons_self ..))⟩
theorem QRows.at {w : World} {a : Option Addr} {l : List (List Int × QA)} (h : QRows w a l) {k : Nat} {x : List Int × QA} (hx : l[k]? = some x) :
    ∃ b off, a = some ⟨b, off, none⟩ ∧ b < w.heap.size ∧ w.cell? ⟨b, off + k, none⟩ = some (.slice x.2.qa x.1.length x.2.qc) := by
  obtain ⟨b, off, ha, hb, hc⟩ := Row.item (f := rowRL.f) rowRL.hf h.row hx (by decide)
  refine ⟨b, off, ha, hb, ?_⟩
  have := hc 0 _ (by decide) rfl
  rw [show off + k = off + (k * rowRL.n + 0) by rw [show rowRL.n = 1 from rfl]; omega]
  exact this
theorem row_get {l m : List (List Int × QA)} (h : l.map Prod.fst = m.map Prod.fst) {k : Nat} (hk : k < l.length) (hk' : k < m.length) : m[k] = (l[k].1, m[k].2) := by
  have h1 : (l.map Prod.fst)[k]? = (m.map Prod.fst)[k]? := by rw [h]
  simp [hk, hk'] at h1
  rw [h1]
set_option maxRecDepth 100000 in
set_option maxHeartbeats 4000000 in
theorem eqInt64SS_c (l m : List (List Int × QA)) (a b : Option Addr) (c d : Nat) (w : World) (hl : QRows w a l) (hm : QRows w b m) (he : l.map Prod.fst = m.map Prod.fst) (hn : (l.length : Int) ≤ 1000000000000) (hq : ∀ x ∈ l, x.1.length ≤ 1000) :
    Calls Try.prog 86 #[.slice a l.length c, .slice b m.length d] w fun e w' => e = .returned (.bool true) ∧ ∃ n, w' = w.drewN n := by
  have hlm : m.length = l.length := by have := congrArg List.length he; simpa using this.symm
  have HLM := Lib.hid hlm
  have HL := Lib.hid hl
  have HM := Lib.hid hm
  have HE := Lib.hid he
  have HQ := Lib.hid hq
  rw [hlm]
  clear hl hm he hq hlm
  go_enter Try.func86, Try.ntmps86
  go_wp2
  go_loopw [5] (fun i wr => ∃ (j n : Nat), i = .int .i64 j ∧ j ≤ l.length ∧ Hid (wr = w.drewN n)) (fun i _ => l.length - (intOf i).toNat)
  case atStart => exact ⟨0, 0, rfl, Nat.zero_le _, rfl⟩
  case round =>
    obtain ⟨j, n, rfl, hj, HWR⟩ := hrel
    by_cases hlt : j < l.length
    · have hlt' : j < m.length := by have := HLM.out; omega
      obtain ⟨ab, ao, ha, hab, hA⟩ := (show QRows wr a l by rw [HWR.out]; exact HL.out.below (below_draws _ _ n) (Nat.le_refl _)).at (k := j) (x := l[j]) (by simp [hlt])
      obtain ⟨bb, bo, hb, hbb, hB⟩ := (show QRows wr b m by rw [HWR.out]; exact HM.out.below (below_draws _ _ n) (Nat.le_refl _)).at (k := j) (x := (l[j].1, m[j].2)) (by rw [← row_get HE.out hlt hlt']; simp [hlt'])
      subst ha hb
      have HI : Hid (Ints wr l[j].2.qa l[j].1) := by unfold Hid; rw [HWR.out]; exact HL.out.items l[j] (List.getElem_mem hlt)
      have HJ : Hid (Ints wr m[j].2.qa m[j].1) := by unfold Hid; rw [HWR.out]; exact HM.out.items m[j] (List.getElem_mem hlt')
      rw [row_get HE.out hlt hlt'] at HJ
      have HN := Lib.hid (HQ.out l[j] (List.getElem_mem hlt))
      obtain ⟨y, hy⟩ : ∃ y, y = l[j] := ⟨_, rfl⟩
      obtain ⟨M, hM⟩ : ∃ y, y = m[j].2 := ⟨_, rfl⟩
      rw [← hy] at hA hB HI HJ HN
      rw [← hM] at hB HJ
      clear hy hM
      obtain ⟨x, K⟩ := y
      dsimp only at hA hB HI HJ HN
      have HC : Hid (∀ n, Calls Try.prog 162 #[.slice K.qa x.length K.qc, .slice M.qa x.length M.qc] (wr.drewN n) fun e w' => e = .returned (.bool true) ∧ ∃ m, w' = (wr.drewN n).drewN m) := fun n => by
        have := eqInt64S_c K.qa M.qa K.qc M.qc x x (wr.drewN n) HI.out HJ.out (by have := HN.out; unfold maxLen; omega) (by have := HN.out; unfold maxLen; omega)
        rw [decide_eq_true rfl] at this
        exact this
      clear HI HJ HN
      go_wp2
      go_quiet ((go_at_call 162; (with_reducible exact Calls.quiet_of (HC.out _))))
      go_wp2
      go_roundw
      case rel => exact ⟨j + 1, _, by go_num, by omega, by unfold Hid; rw [HWR.out]; exact World.drewN_drewN ..⟩
      case measure => simp [intOf]; omega
    · go_wp2
      go_ret
      exact ⟨rfl, n, HWR.out⟩

/-! ### marked -/
def mkQ (x : List Int × QA) (k : Int) : List Int × QA := (marks k x.1.length, x.2)
def szQ (x : List Int × QA) : Int := x.1.length
theorem szQ_pos (x : List Int × QA) : 0 ≤ szQ x := by unfold szQ; omega
set_option maxRecDepth 100000 in
set_option maxHeartbeats 8000000 in
theorem markInt64SS_c (lo hi : Nat) (ad : Option Addr) (c : Nat) (l : List (List Int × QA)) (k : Int) (w : World) (h : PcsP lo hi (rowRL.pcs ad c l) w) (hn : (l.length : Int) ≤ 1000000000000) (hk : 0 ≤ k) (hk' : k + mkSum szQ l ≤ 1099511627776) :
    Calls Try.prog 87 #[.slice ad l.length c, .int .i64 k] w fun e w' => e = .returned (.int .i64 (k + mkSum szQ l)) ∧ PcsP lo hi (rowRL.pcs ad c (mkGo mkQ szQ l k)) w' ∧ Chg lo hi w w' := by
  have HH := Lib.hid h
  clear h
  go_enter Try.func87, Try.ntmps87
  go_wp2
  go_loopw [1, 5] (fun q i wr => ∃ j : Nat, j ≤ l.length ∧ i = .int .i64 j ∧ q = .int .i64 (mkAt szQ l k j) ∧ Hid (PcsP lo hi (rowRL.pcs ad c (mkd mkQ szQ l k j)) wr ∧ Chg lo hi w wr)) (fun _ i _ => l.length - (intOf i).toNat)
  case atStart => exact ⟨0, Nat.zero_le _, rfl, by rw [mkAt_zero], by unfold Hid; rw [mkd_zero]; exact ⟨HH.out, Chg.refl _ _ _⟩⟩
  case round =>
    obtain ⟨j, hj, rfl, rfl, HST⟩ := hrel
    clear HH
    by_cases hlt : j < l.length
    · have hx0 : l[j]? = some l[j] := List.getElem?_eq_getElem hlt
      have hx1 : (mkd mkQ szQ l k j)[j]? = some l[j] := by rw [mkd_get mkQ szQ k hlt]; exact hx0
      have HN : Hid (mkAt szQ l k (j + 1) = mkAt szQ l k j + szQ l[j]) := mkAt_succ szQ k hx0
      have HS : Hid ((mkd mkQ szQ l k j).set j (mkQ l[j] (mkAt szQ l k j)) = mkd mkQ szQ l k (j + 1)) := mkd_set mkQ szQ k hx0
      have hb1 := mkAt_le szQ szQ_pos l k j
      have hb2 := mkAt_le szQ szQ_pos l k (j + 1)
      have HLL : Hid ((mkd mkQ szQ l k j).length = l.length) := mkd_len mkQ szQ l k j
      rw [HN.out] at hb2
      obtain ⟨y, hy⟩ : ∃ y, y = l[j] := ⟨_, rfl⟩
      obtain ⟨K, hK⟩ : ∃ K, K = mkAt szQ l k j := ⟨_, rfl⟩
      obtain ⟨L, hL⟩ : ∃ L, L = mkd mkQ szQ l k j := ⟨_, rfl⟩
      rw [← hK] at HN HS hb1 hb2 ⊢
      rw [← hy] at HN HS hx1 hb2
      rw [← hL] at HS hx1 HST HLL
      clear hy hK hL hx0
      obtain ⟨x, A⟩ := y
      simp only [szQ] at hb2
      obtain ⟨h0, hC0⟩ := HST.out
      obtain ⟨g, hg, hg1, hg2⟩ := RL.at h0 (by have := HLL.out; omega)
      subst hg
      obtain ⟨q0, f0⟩ : _ ∧ _ := RL.cell h0 hx1 (i := 0) (by decide) rfl
      simp only [show rowRL.n = 1 from rfl, Nat.add_zero, Nat.mul_one] at q0 f0
      have HX := Lib.hid hx1
      have HN1 : Hid (mkAt szQ l k (j + 1) = K + x.length) := HN.out
      clear h0 hC0 hx1 HN
      go_wp2_with fail
      refine (markInt64S_c lo A.qa x.length A.qc x K _ (RL.row HST.out.1 (List.mem_of_getElem? HX.out) (List.mem_cons_self ..)) (by omega) (by omega)).mono ?_
      rintro e w4 ⟨rfl, ho4, hg4⟩
      obtain ⟨h4, hC4⟩ := RL.setRow HST.out.1 HX.out (i := 0) (q := pieceI A.qa A.qc x) (q' := ⟨2, 1, .slice A.qa x.length A.qc, x.length, (marks K x.length).map (Value.int .i64)⟩) (x' := (marks K x.length, A)) (by decide) rfl hg4 ho4 rfl (by simp [rowRL, pieceI, marks_length]) (by simp [rowRL, marks_length])
      have hs6 : L.set j (marks K x.length, A) = mkd mkQ szQ l k (j + 1) := HS.out
      rw [hs6] at h4
      have HH4 := Lib.hid (And.intro h4 (HST.out.2.trans hC4))
      clear h4 hC4 ho4 hg4 q0 f0 HX HS hs6 HST
      go_wp2
      go_roundw
      case rel => exact ⟨j + 1, by omega, by go_num, by rw [HN1.out], HH4⟩
      case measure => simp [intOf]; omega
    · obtain rfl : j = l.length := by omega
      have := HST.out
      rw [mkd_all] at this
      have HR := Lib.hid this
      clear this HST
      rw [mkAt_all]
      go_wp2
      go_ret
      exact ⟨rfl, HR.out.1, HR.out.2⟩
set_option maxRecDepth 100000 in
set_option maxHeartbeats 8000000 in
theorem heldInt64SS_c (a : Option Addr) (c : Nat) (l : List (List Int × QA)) (k : Int) (w : World) (h : QRows w a (mkGo mkQ szQ l k)) (hn : (l.length : Int) ≤ 1000000000000) (hk : 0 ≤ k) (hk' : k + mkSum szQ l ≤ 1099511627776) :
    Calls Try.prog 88 #[.slice a l.length c, .int .i64 k] w fun e w' => e = .returned (.int .i64 (k + mkSum szQ l)) ∧ w = w' := by
  have HH := Lib.hid h
  clear h
  go_enter Try.func88, Try.ntmps88
  go_wp2
  go_loop [1, 5] (fun q i => ∃ j : Nat, j ≤ l.length ∧ i = .int .i64 j ∧ q = .int .i64 (mkAt szQ l k j)) (fun _ i => l.length - (intOf i).toNat)
  case atStart => exact ⟨0, Nat.zero_le _, rfl, by rw [mkAt_zero]⟩
  case round =>
    obtain ⟨j, hj, rfl, rfl⟩ := hrel
    by_cases hlt : j < l.length
    · have hx0 : l[j]? = some l[j] := List.getElem?_eq_getElem hlt
      have hx1 : (mkGo mkQ szQ l k)[j]? = some (mkQ l[j] (mkAt szQ l k j)) := mkGo_get mkQ szQ k hx0
      have HN : Hid (mkAt szQ l k (j + 1) = mkAt szQ l k j + szQ l[j]) := mkAt_succ szQ k hx0
      have hb1 := mkAt_le szQ szQ_pos l k j
      have hb2 := mkAt_le szQ szQ_pos l k (j + 1)
      rw [HN.out] at hb2
      obtain ⟨y, hy⟩ : ∃ y, y = l[j] := ⟨_, rfl⟩
      obtain ⟨K, hK⟩ : ∃ K, K = mkAt szQ l k j := ⟨_, rfl⟩
      rw [← hK] at HN hx1 hb1 hb2 ⊢
      rw [← hy] at HN hx1 hb2
      clear hy hK hx0
      obtain ⟨x, A⟩ := y
      simp only [szQ] at hb2
      obtain ⟨b, off, ha, hb, q0⟩ := HH.out.at hx1
      have hr1 := HH.out.items _ (List.mem_of_getElem? hx1)
      subst ha
      simp only [mkQ, marks_length] at q0 hr1
      have HR1 := Lib.hid hr1
      have HN1 : Hid (mkAt szQ l k (j + 1) = K + x.length) := HN.out
      clear hr1 hx1 HN
      have n1 : ¬ K + x.length < 0 := by omega
      go_wp2_with fail
      refine (heldInt64S_c A.qa x.length A.qc K _ HR1.out (by omega) (by omega)).mono ?_
      rintro e w1 ⟨rfl, rfl⟩
      go_wp2
      go_round
      case rel => exact ⟨j + 1, by omega, by go_num, by rw [HN1.out]⟩
      case measure => simp [intOf]; omega
    · obtain rfl : j = l.length := by omega
      rw [mkAt_all]
      go_wp2
      go_ret
      exact ⟨rfl, rfl⟩
theorem mkSum_rows : ∀ {l : List (List Int × QA)}, (∀ x ∈ l, x.1.length ≤ 1000) → 0 ≤ mkSum szQ l ∧ mkSum szQ l ≤ (l.length : Int) * 1000
  | [], _ => by simp [mkSum]
  | x :: l, h => by
    have h1 := mkSum_rows (l := l) (fun y hy => h y (List.mem_cons_of_mem _ hy))
    have h2 := h x (List.mem_cons_self ..)
    simp only [mkSum, szQ, List.length_cons]
    omega
theorem rows_few {l : List (List Int × QA)} {y : List (List Int)} (hl : l.map Prod.fst = y) (hy : (y.length : Int) ≤ 400000000) (hq : ∀ x ∈ y, x.length ≤ 1000) :
    (l.length : Int) ≤ 1000000000000 ∧ (∀ x ∈ l, x.1.length ≤ 1000) ∧ 0 ≤ mkSum szQ l ∧ mkSum szQ l ≤ 400000000000 := by
  have hn : (l.length : Int) ≤ 400000000 := by rw [← hl] at hy; simpa using hy
  have hq' : ∀ x ∈ l, x.1.length ≤ 1000 := fun x hx => hq _ (by rw [← hl]; exact List.mem_map_of_mem hx)
  have := mkSum_rows hq'
  exact ⟨by omega, hq', this.1, by omega⟩
theorem pfxP_few (r : R) (p : P) (d : Int) : ((pfxP r p d).1.length : Int) ≤ 400000000 ∧ ∀ x ∈ (pfxP r p d).1, x.length ≤ 1000 := by
  unfold pfxP
  split
  · rename_i hz
    obtain ⟨hok, D, hd, hD, _⟩ := srchC_zero hz
    have h1 := pfxT_len r d.toNat p []
    have h2 := lnT_bd r oneF oneF_bd d.toNat p hok
    have h3 := P8_le d.toNat (by omega)
    refine ⟨by simp only; omega, fun x hx => ?_⟩
    have := pfxT_each r d.toNat p [] x hx
    simp at this
    omega
  · exact ⟨by simp, fun x hx => by cases hx⟩

end Go.Proofs.Ytbjdfgfebepacaa
