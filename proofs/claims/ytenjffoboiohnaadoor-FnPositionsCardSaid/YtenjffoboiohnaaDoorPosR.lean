/- PosR: the numbers of a position's text read. Each contract holds for every argument, under the premises that it states. -/
import Derived.Test.YtenjffoboiohnaaDoorPosT
namespace Go.Proofs.YtenjffoboiohnaaDoor
set_option linter.unusedSimpArgs false
set_option linter.unusedVariables false
set_option linter.unnecessarySimpa false
open Go.RowKit Go.ChangeShapes Go.WideShapes Go.ChangeAt Go.Joins

def NuRes (w : World) (xs : List Int) (e : Ending) (w' : World) : Prop := ∃ (a : Option Addr) (c : Nat), e = .returned (.tuple #[.slice a xs.length c, .bool true]) ∧ w'.ownsRow w.heap.size 2 1 (.slice a xs.length c) xs.length (xs.map (Value.int .i64)) ∧ Below w.heap.size w w'
def slLen : Value → Nat
  | .slice _ n _ => n
  | _ => 0
set_option maxRecDepth 100000 in
set_option maxHeartbeats 8000000 in
theorem readNumbers_c (xs : List Int) (w : World) (HT0 : TabB w) (h0 : 0 < xs.length) (hx : ∀ x ∈ xs, Num96 x) (hl : xs.length ≤ 100) :
    Calls Tryd.prog 27 #[.string ⟨(jc xs).toArray⟩] w (NuRes w xs) := by
  obtain ⟨i0, hi, hz0, hz1, hz2⟩ := info_parts infoI
  have HB0 : Hid (Below w.heap.size w (w.alloc (.cells #[] 2))) := below_alloc1 _ _
  have HO0 : Hid ((w.alloc (.cells #[] 2)).ownsRow w.heap.size 2 1 (.slice (some ⟨w.heap.size, 0, none⟩) 0 0) 0 ((xs.take 0).map (Value.int .i64))) := World.ownsRow_lit (base := w.heap.size) (e := 2) (size := 1) w #[] 0 (Nat.le_refl _) (Nat.zero_le _) rfl
  have HX := Lib.hid hx
  have HT := Lib.hid HT0
  have HS0 : Hid (jc xs = jc (xs.drop 0)) := by unfold Hid; rw [List.drop_zero]
  clear hx HT0
  go_enter Tryd.func27, Tryd.ntmps27
  go_upto_region 2 with fail
  go_loopw [0, 4] (fun s o wr => ∃ (k g c : Nat), s = .string ⟨(jc (xs.drop k)).toArray⟩ ∧ o = .slice (some ⟨g, 0, none⟩) k c ∧ k < xs.length ∧ Hid (wr.ownsRow w.heap.size 2 1 (.slice (some ⟨g, 0, none⟩) k c) k ((xs.take k).map (Value.int .i64))) ∧ Hid (Below w.heap.size w wr)) (fun _ o _ => xs.length - slLen o)
  case atStart => exact ⟨0, _, _, by rw [← HS0.out], rfl, h0, HO0, HB0⟩
  case round =>
    clear HO0 HB0 HS0
    obtain ⟨k, g, c, rfl, rfl, hk, HO, HB⟩ := hrel
    have hn := HX.out xs[k] (List.getElem_mem hk)
    have hno := num_ok hn
    have hcut := jc_cut hk HX.out
    have hjl : (jc (xs.drop k)).length ≤ 1000000 := by
      have := (jc_no (l := xs.drop k) (fun x hx => HX.out x (List.mem_of_mem_drop hx))).2.2
      rw [List.length_drop] at this
      omega
    have HC := Lib.hid (cut_c 44 (jc (xs.drop k)) wr hjl)
    rw [hcut] at HC
    obtain ⟨S2, hS2⟩ : ∃ S, S = jc (xs.drop (k + 1)) := ⟨_, rfl⟩
    rw [← hS2] at HC
    have HS2 := Lib.hid hS2
    obtain ⟨S1, hS1⟩ : ∃ S, S = jc (xs.drop k) := ⟨_, rfl⟩
    rw [← hS1] at HC
    rw [← hS1]
    have HST : Hid ((xs.take (k + 1)).map (Value.int .i64) = (xs.take k).map (Value.int .i64) ++ [.int .i64 xs[k]]) := by unfold Hid; rw [List.take_succ_eq_append_getElem hk, List.map_append]; rfl
    obtain ⟨x, hx⟩ : ∃ x, x = xs[k] := ⟨_, rfl⟩
    rw [← hx] at HC hno HST
    have HRD := Lib.hid (fun (W : World) (hW : Below w.heap.size w W) => ReadDecimal_c (Lib.itoa x) W (fun W' hW' => HT.out W' (below_next hW hW')) (by have := hno.2.2.2.1; omega))
    rw [hno.2.2.2.2] at HRD
    obtain ⟨D, hD⟩ : ∃ D, D = Lib.itoa x := ⟨_, rfl⟩
    rw [← hD] at HC HRD
    obtain ⟨V, hV⟩ : ∃ V, V = (xs.take k).map (Value.int .i64) := ⟨_, rfl⟩
    rw [← hV] at HO HST
    have hVl : V.length = k := by rw [hV]; simp; omega
    have HVL := Lib.hid hVl
    have HKL : Hid (k ≤ 100) := by unfold Hid; omega
    clear hn hno hcut hS1 hx hD hV hVl hjl hS2
    go_wp2_with fail
    refine HC.out.mono ?_
    rintro e w1 ⟨rfl, hb1⟩
    have HB1 := Lib.hid (below_next HB.out hb1)
    have HO1 := Lib.hid (own_below HO.out hb1 (Nat.le_refl _))
    clear hb1 HB HO HC
    go_wp2_with fail
    refine (HRD.out _ HB1.out).mono ?_
    rintro e w2 ⟨rfl, hb2⟩
    have HBX2 : Hid (BoxP w2.heap.size [.int .i64 x] (w2.alloc (.cells #[.int .i64 x] 2))) := ((Fr.start w2).alloc #[.int .i64 x] 2).at 0 rfl
    have HOW : Hid ((w2.alloc (.cells #[.int .i64 x] 2)).ownsRow w.heap.size 2 1 (.slice (some ⟨g, 0, none⟩) k c) k V) := own_below HO1.out (below_next hb2 (below_alloc1 _ _)) (Nat.le_refl _)
    have HBW : Hid (Below w.heap.size w (w2.alloc (.cells #[.int .i64 x] 2))) := below_next (below_next HB1.out hb2) (below_alloc1 _ _)
    clear hb2 HB1 HO1 HRD
    go_wp2_with (at_builtin; refine wpList_append_own2 _ rfl _ _ 26 rfl w.heap.size 2 i0 (.int .i64 0) 1 8 Tryd.underlying26 hi hz0 hz1 hz2 rfl (by decide) (.slice (some ⟨g, 0, none⟩) k c) k V rfl HOW.out ⟨w2.heap.size, 0, none⟩ 1 1 [.int .i64 x] rfl rfl (fun j u hu => by rw [addr_addS, Nat.zero_add]; exact HBX2.out j u hu) (by intro u hu; simp at hu; subst hu; rfl) (by have := HKL.out; unfold maxLen; omega) (by have := HKL.out; omega) (HBW.out.size) ?_)
    intro ad6 c6 w6 ho6 hg6 hn6
    obtain ⟨g6, rfl, _, _⟩ := own_lt_n ho6 (by omega)
    have HO6 : Hid (w6.ownsRow w.heap.size 2 1 (.slice (some ⟨g6, 0, none⟩) (k + 1) c6) (k + 1) ((xs.take (k + 1)).map (Value.int .i64))) := by
      unfold Hid
      rw [HST.out]
      exact ho6
    have HB6 := Lib.hid (below_grown HBW.out hg6 (fun q hq => (HOW.out.lt q hq).1))
    clear ho6 hg6 hn6 HOW HBX2 HBW HST HVL
    by_cases h1 : k + 1 < xs.length
    · have hd1 : decide (k + 1 < xs.length) = true := decide_eq_true h1
      go_wp2
      go_roundw
      case rel => exact ⟨k + 1, g6, c6, by rw [HS2.out], rfl, h1, HO6, HB6⟩
      case measure => simp [slLen]; omega
    · have hd1 : decide (k + 1 < xs.length) = false := decide_eq_false h1
      have hkk : k + 1 = xs.length := by omega
      rw [hkk, List.take_length] at HO6
      have HKK := Lib.hid hkk
      clear hkk
      go_wp2
      go_ret2
      exact ⟨some ⟨g6, 0, none⟩, c6, by rw [HKK.out]; rfl, HO6.out, HB6.out⟩

end Go.Proofs.YtenjffoboiohnaaDoor
