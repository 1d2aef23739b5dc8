/- FcS: the facts of laps, as the reference tells them. Each contract holds for every argument, under the premises that it states. -/
import Derived.Test.YtbjgigdkbjabaaaFcP
import Derived.Test.YtbjgigdkbjabaaaSMake
namespace Go.Proofs.Ytbjgigdkbjabaaa
set_option linter.unusedSimpArgs false
set_option linter.unusedVariables false
set_option linter.unnecessarySimpa false
open Go.RowKit Go.ChangeShapes Go.WideShapes Go.ChangeAt Go.Joins

/-- a list of facts of the call's own, with what is kept -/
def SoRes (K : Nat → Prop) (B : Nat) (l : List Fc) (w : World) (e : Ending) (w' : World) : Prop := ∃ (fa' : Option Addr) (fc' : Nat), e = .returned (.slice fa' l.length fc') ∧ w'.ownsRow B 95 3 (.slice fa' l.length fc') l.length (flat fcRL.f l) ∧ BelK K B w w' ∧ ∀ k, (Value.slice fa' l.length fc').ownBlock = some k → ¬ K k
set_option maxRecDepth 100000 in
set_option maxHeartbeats 16000000 in
theorem l11Sow_c (K : Nat → Prop) (B : Nat) (pre cur : List Fc) (q : Int) (fa : Option Addr) (fc : Nat) (w : World) (h : w.ownsRow B 95 3 (.slice fa (pre ++ cur).length fc) (pre ++ cur).length (flat fcRL.f (pre ++ cur))) (hcb : ∀ f ∈ cur, 0 ≤ f.count ∧ f.count ≤ 100000) (hl : (pre ++ cur).length ≤ 100000) (hB : B ≤ w.heap.size)
    (hKl : ∀ k, K k → k < w.heap.size) (hKa : ∀ k, (Value.slice fa (pre ++ cur).length fc).ownBlock = some k → ¬ K k) :
    Calls Try.prog 152 #[.slice fa (pre ++ cur).length fc, .int .i64 (pre.length : Int), .int .i64 q] w (SoRes K B (pre ++ sowF q cur) w) := by
  obtain ⟨i0, hi, hz0, hz1, hz2⟩ := info_partsFc infoFc
  obtain ⟨l, hle⟩ : ∃ l, l = pre ++ cur := ⟨_, rfl⟩
  rw [← hle] at h hl hKa ⊢
  have hll : l.length = pre.length + cur.length := by rw [hle]; simp
  have HLE := Lib.hid hle
  have HLL := Lib.hid hll
  have HH := Lib.hid h
  have HCB := Lib.hid hcb
  have HK : Hid ((∀ k, K k → k < w.heap.size) ∧ (∀ k, (Value.slice fa l.length fc).ownBlock = some k → ¬ K k)) := ⟨hKl, hKa⟩
  have hbl : pre.length ≤ 100000 ∧ pre.length ≤ l.length := by omega
  clear h hcb hKl hKa hle hll
  go_enter Try.func152, Try.ntmps152
  go_wp2_with fail
  go_loopw [7] (fun i wr => ∃ (j : Nat), i = .int .i64 ((pre.length + j : Nat) : Int) ∧ j ≤ cur.length ∧ Hid (wr = w ∧ ∀ (m : Nat) (hm : m < cur.length), m < j → ¬ cur[m].place = q)) (fun i _ => l.length - (intOf i).toNat)
  case atStart => exact ⟨0, rfl, Nat.zero_le _, Lib.hid ⟨rfl, fun m hm h => absurd h (Nat.not_lt_zero m)⟩⟩
  case round =>
    obtain ⟨j, rfl, hj, HW⟩ := hrel
    have hw := HW.out.1
    subst hw
    obtain ⟨J, hJ⟩ : ∃ J, J = pre.length + j := ⟨_, rfl⟩
    rw [← hJ]
    have hJl : J ≤ l.length := by have := HLL.out; omega
    by_cases hlt : j < cur.length
    · have hJlt : J < l.length := by have := HLL.out; omega
      have hjI : (J : Int) < (l.length : Int) := by omega
      obtain ⟨g, rfl, hg1, hg2⟩ := own_lt_n HH.out (by omega)
      obtain ⟨f, hf⟩ : ∃ f, f = cur[j] := ⟨_, rfl⟩
      have hx : l[J]? = some f := by rw [HLE.out, hJ, List.getElem?_append_right (by omega), Nat.add_sub_cancel_left, List.getElem?_eq_getElem hlt, hf]
      have q1 : wr.cell? ⟨g, J * 3 + 1, none⟩ = some (.int .i64 f.place) := own_item (f := fcRL.f) (n := 3) fcRL.hf HH.out hx 1 _ (by decide) rfl
      have q2 : wr.cell? ⟨g, J * 3 + 2, none⟩ = some (.int .i64 f.count) := own_item (f := fcRL.f) (n := 3) fcRL.hf HH.out hx 2 _ (by decide) rfl
      have gf := fun o => HH.out.frozenAt o
      have hfb := HCB.out f (by rw [hf]; exact List.getElem_mem hlt)
      have hwf : IntKind.i64.wrap (f.count + 1) = f.count + 1 := IntWalk.i64_in _ (by omega)
      have hwk : IntKind.i64.wrap ((J : Int) + 1) = (J : Int) + 1 := IntWalk.i64_in _ (by omega)
      have HF := Lib.hid hf
      by_cases he : f.place = q
      · have heb : (f.place == q) = true := by simpa using he
        have HFIN : Hid (pre ++ sowF q cur = l.set J ⟨f.kind, f.place, f.count + 1⟩) := by
          unfold Hid
          rw [sowF_set hlt (by rw [← hf]; exact he) (fun m hm hmj => HW.out.2 m hm hmj), HLE.out, hJ, List.set_append_right _ _ (by omega), Nat.add_sub_cancel_left, ← hf]
        have HOWN : Hid ((wr.setCell ⟨g, J * 3 + 2, none⟩ (.int .i64 (f.count + 1))).ownsRow B 95 3 (.slice (some ⟨g, 0, none⟩) l.length fc) l.length (flat fcRL.f (l.set J ⟨f.kind, f.place, f.count + 1⟩))) := by
          have hs := (HH.out.stored (J * 3 + 2) (.int .i64 (f.count + 1))).1
          rw [flat_set (n := 3) fcRL.hf hx (x' := ⟨f.kind, f.place, f.count + 1⟩) (by decide) rfl] at hs
          exact hs
        have HBK : Hid (BelK K B wr (wr.setCell ⟨g, J * 3 + 2, none⟩ (.int .i64 (f.count + 1)))) := (BelK.refl HK.out.1).setCell hg1 (HK.out.2 g rfl) _
        obtain ⟨v, hv⟩ : ∃ v, v = f.count := ⟨_, rfl⟩
        obtain ⟨u, hu⟩ : ∃ u, u = f.place := ⟨_, rfl⟩
        rw [← hv] at q2 hwf HBK HOWN HFIN
        rw [← hu] at q1 heb HOWN HFIN
        clear hf hx hfb he hv hu HF hJ hlt hj
        go_wp2
        go_ret
        refine ⟨some ⟨g, 0, none⟩, fc, ?_, ?_, HBK.out, ?_⟩
        · rw [HFIN.out, List.length_set]; rfl
        · rw [HFIN.out, List.length_set]; exact HOWN.out
        · rw [HFIN.out, List.length_set]; exact HK.out.2
      · have heb : (f.place == q) = false := by simpa using he
        have HNX : Hid (∀ (m : Nat) (hm : m < cur.length), m < j + 1 → ¬ cur[m].place = q) := fun m hm hmj => by
          by_cases hmj2 : m = j
          · subst hmj2; rw [← hf]; exact he
          · exact HW.out.2 m hm (by omega)
        have HJ := Lib.hid hJ
        obtain ⟨u, hu⟩ : ∃ u, u = f.place := ⟨_, rfl⟩
        rw [← hu] at q1 heb
        clear hf hx hfb he hu HF hJ q2 hwf
        go_wp2
        go_roundw
        case rel => exact ⟨j + 1, by rw [HJ.out]; go_num, by omega, by first | exact Lib.hid ⟨rfl, HNX.out⟩ | exact Lib.hid ⟨trivial, HNX.out⟩⟩
        case measure => have h1 := HJ.out; simp [intOf]; omega
    · have hje : j = cur.length := by omega
      have hJe : J = l.length := by have := HLL.out; omega
      have HFIN : Hid (pre ++ sowF q cur = l ++ [⟨2, q, 1⟩]) := by
        unfold Hid
        rw [sowF_none (fun f hf => by
          obtain ⟨m, hm, rfl⟩ := List.mem_iff_getElem.1 hf
          exact HW.out.2 m hm (by omega)), HLE.out, List.append_assoc]
      have HBX : Hid (BoxP wr.heap.size (Fc.cells ⟨2, q, 1⟩).toList (wr.alloc (.cells (Fc.cells ⟨2, q, 1⟩) 95))) := ((Fr.start wr).alloc (Fc.cells ⟨2, q, 1⟩) 95).at 0 rfl
      have HO := Lib.hid (own_below HH.out (below_alloc1 wr (.cells (Fc.cells ⟨2, q, 1⟩) 95)) (Nat.le_refl _))
      clear hJ hje hj hlt hJl
      subst hJe
      have hjI : ¬ (l.length : Int) < (l.length : Int) := by omega
      go_wp2_with (at_builtin; refine wpList_append_own2 _ rfl _ _ 36 rfl B 95 i0 (.agg #[.int .i64 0, .int .i64 0, .int .i64 0]) 3 24 Try.underlying36 hi hz0 hz1 hz2 rfl (by decide) (.slice fa l.length fc) l.length (flat fcRL.f l) rfl HO.out ⟨wr.heap.size, 0, none⟩ 1 1 (Fc.cells ⟨2, q, 1⟩).toList rfl rfl (fun j u hu => by rw [addr_addT, Nat.zero_add]; exact HBX.out j u hu) (by intro u hu; simp [Fc.cells] at hu; rcases hu with rfl | rfl | rfl <;> rfl) (by unfold maxLen; omega) (by omega) (by simp; omega) ?_)
      intro ad2 c2 w2 ho2 hg2 hn2
      have HOWN : Hid (w2.ownsRow B 95 3 (.slice ad2 (l.length + 1) c2) (l.length + 1) (flat fcRL.f (l ++ [⟨2, q, 1⟩]))) := by
        unfold Hid
        rw [flat_append, flat_one]
        exact ho2
      have HBK : Hid (BelK K B wr w2) := ((BelK.refl HK.out.1).below hB (below_alloc1 wr (.cells (Fc.cells ⟨2, q, 1⟩) 95))).grown hg2 (by simp; omega) (fun k hk => (HH.out.lt k hk).1) HK.out.2
      have HAK : Hid (∀ k, (Value.slice ad2 (l.length + 1) c2).ownBlock = some k → ¬ K k) := fun k hk hkk => by
        rcases hn2 k hk with h1 | h1
        · exact HK.out.2 k h1 hkk
        · have := HK.out.1 k hkk
          omega
      clear ho2 hg2 hn2 HBX HO
      go_wp2
      go_ret
      have e : (l ++ [(⟨2, q, 1⟩ : Fc)]).length = l.length + 1 := by simp
      refine ⟨ad2, c2, ?_, ?_, HBK.out, ?_⟩
      · rw [HFIN.out, e]; rfl
      · rw [HFIN.out, e]; exact HOWN.out
      · rw [HFIN.out, e]; exact HAK.out

end Go.Proofs.Ytbjgigdkbjabaaa
