/- Tab13: the table, sorted: the reference's front. Each contract holds for every argument, under the premises that it states. -/
import Derived.Test.YtbjgigdkbjabaaaTab12
namespace Go.Proofs.Ytbjgigdkbjabaaa
set_option linter.unusedSimpArgs false
set_option linter.unusedVariables false
set_option linter.unnecessarySimpa false
open Go.RowKit Go.ChangeShapes Go.WideShapes Go.ChangeAt Go.Joins

set_option maxRecDepth 100000 in
set_option maxHeartbeats 8000000 in
theorem sTableOf_c (n : Int) (l : List Mt) (a : Option Addr) (c : Nat) (w : World) (h : Row w a (flat mtRL.f l)) (hm : l.length ≤ 1048576) :
    Calls Try.prog 37 #[.int .i64 n, .slice a l.length c] w (RwResC w (tableP n l) (tableK n l)) := by
  have HH := Lib.hid h
  have HV := Lib.hid (l26Ok_c n l a c w h hm)
  clear h
  cases hv : mtsOk n l with
  | false =>
    have HT : Hid (tableP n l = [] ∧ tableK n l = 1) := by unfold Hid tableP tableK; rw [hv]; exact ⟨rfl, rfl⟩
    rw [hv] at HV
    clear hv
    go_enter Try.func37, Try.ntmps37
    go_wp2_with fail
    refine HV.out.mono ?_
    rintro e w1 ⟨rfl, m, rfl⟩
    have HB := Lib.hid (below_draws w.heap.size w m)
    go_wp2
    go_ret2
    unfold RwResC
    rw [HT.out.1, HT.out.2]
    exact ⟨none, 0, rfl, nil_pcs _, HB.out⟩
  | true =>
    obtain ⟨⟨hn1, hn2⟩, hl, hok⟩ := mtsOk_parts hv
    obtain ⟨N, rfl⟩ : ∃ N : Nat, n = (N : Int) := ⟨n.toNat, by omega⟩
    have HT : Hid (tableP (N : Int) l = srtR (rowsP N l) ∧ tableK (N : Int) l = 0) := by unfold Hid tableP tableK; rw [hv]; exact ⟨rfl, rfl⟩
    rw [hv] at HV
    have HR := Lib.hid (fun W (hW : Below w.heap.size w W) => l26Table_c N l a c W (HH.out.below hW (Nat.le_refl _)) ⟨by omega, by omega⟩ hl hok)
    clear hv hn1 hn2 hl hok
    go_enter Try.func37, Try.ntmps37
    go_wp2_with fail
    refine HV.out.mono ?_
    rintro e w1 ⟨rfl, m, hw1⟩
    have HB1 : Hid (Below w.heap.size w w1) := by rw [hw1]; exact below_draws _ _ _
    clear hw1
    go_wp2_with fail
    refine (HR.out _ HB1.out).mono ?_
    rintro e w2 ⟨a2, c2, rfl, hp2, hb2⟩
    have HE : Hid (Pcs w2 w.heap.size (rwRL.pcs a2 c2 (srtR (rowsP N l))) ∧ Below w.heap.size w w2) := ⟨⟨fun q hq => ownsRow_le (hp2.all q hq) HB1.out.size, hp2.sep⟩, below_next HB1.out hb2⟩
    clear hp2 hb2 HR HV
    go_wp2
    go_ret2
    unfold RwResC
    rw [HT.out.1, HT.out.2]
    exact ⟨_, _, rfl, HE.out.1, HE.out.2⟩

theorem tableP_len (n : Int) (l : List Mt) : (tableP n l).length ≤ 12 := by
  unfold tableP
  cases hv : mtsOk n l with
  | false => simp
  | true =>
    obtain ⟨⟨hn1, hn2⟩, _, _⟩ := mtsOk_parts hv
    rw [if_pos rfl, srt_len_all, rowsP_len]
    omega

end Go.Proofs.Ytbjgigdkbjabaaa
