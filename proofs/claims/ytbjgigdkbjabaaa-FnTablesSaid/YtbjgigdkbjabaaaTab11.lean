/- Tab11: the table, sorted: the program's function. Each contract holds for every argument, under the premises that it states. -/
import Derived.Test.YtbjgigdkbjabaaaTab10
namespace Go.Proofs.Ytbjgigdkbjabaaa
set_option linter.unusedSimpArgs false
set_option linter.unusedVariables false
set_option linter.unnecessarySimpa false
open Go.RowKit Go.ChangeShapes Go.WideShapes Go.ChangeAt Go.Joins

/-- rows and a code out of a call -/
def RwResC (w : World) (xs : List Rw) (k : Int) (e : Ending) (w' : World) : Prop := ∃ (a : Option Addr) (c : Nat), e = .returned (.tuple #[.slice a xs.length c, .int .i64 k]) ∧ Pcs w' w.heap.size (rwRL.pcs a c xs) ∧ Below w.heap.size w w'
/-- the table of n players, and its code -/
def tableP (n : Int) (l : List Mt) : List Rw := if mtsOk n l = true then srtR (rowsP n.toNat l) else []
def tableK (n : Int) (l : List Mt) : Int := if mtsOk n l = true then 0 else 1
theorem srt_len_all (l : List Rw) : (srtR l).length = l.length := by
  have := srt_len l l.length (Nat.le_refl _)
  rwa [List.take_length] at this
theorem rowsP_len (n : Nat) (l : List Mt) : (rowsP n l).length = n := rowsAt_len _ _ _ _ _
theorem nil_pcs {w : World} (base : Nat) : Pcs w base (rwRL.pcs none 0 []) := rw_pcs (World.ownsRow_nil w base 84 6)

set_option maxRecDepth 100000 in
set_option maxHeartbeats 8000000 in
theorem iTableOf_c (n : Int) (l : List Mt) (a : Option Addr) (c : Nat) (w : World) (h : Row w a (flat mtRL.f l)) (hm : l.length ≤ 1048576) :
    Calls Try.prog 39 #[.int .i64 n, .slice a l.length c] w (RwResC w (tableP n l) (tableK n l)) := by
  have HH := Lib.hid h
  have HV := Lib.hid (ValidMatches_c n l a c w h hm)
  clear h
  cases hv : mtsOk n l with
  | false =>
    have HT : Hid (tableP n l = [] ∧ tableK n l = 1) := by unfold Hid tableP tableK; rw [hv]; exact ⟨rfl, rfl⟩
    rw [hv] at HV
    clear hv
    go_enter Try.func39, Try.ntmps39
    go_wp2_with fail
    refine HV.out.mono ?_
    rintro e w1 ⟨rfl, hb1⟩
    have HB := Lib.hid hb1
    clear hb1
    go_wp2
    go_ret2
    unfold RwResC
    rw [HT.out.1, HT.out.2]
    exact ⟨none, 0, rfl, nil_pcs _, HB.out⟩
  | true =>
    obtain ⟨⟨hn1, hn2⟩, hl, hok⟩ := mtsOk_parts hv
    obtain ⟨N, rfl⟩ : ∃ N : Nat, n = (N : Int) := ⟨n.toNat, by omega⟩
    have HT : Hid (tableP (N : Int) l = srtR (rowsP N l) ∧ tableK (N : Int) l = 0) := by unfold Hid tableP tableK; rw [hv]; exact ⟨rfl, rfl⟩
    rw [hv] at HV
    have HR := Lib.hid (fun W (hW : Below w.heap.size w W) => rowsOf_c N l a c W (HH.out.below hW (Nat.le_refl _)) ⟨by omega, by omega⟩ hl hok)
    have HN : Hid (2 ≤ N ∧ N ≤ 12) := ⟨by omega, by omega⟩
    clear hv hn1 hn2 hl hok
    go_enter Try.func39, Try.ntmps39
    go_wp2_with fail
    refine HV.out.mono ?_
    rintro e w1 ⟨rfl, hb1⟩
    have HB1 := Lib.hid hb1
    clear hb1
    go_wp2_with fail
    refine (HR.out _ HB1.out).mono ?_
    rintro e w2 ⟨a2, c2, rfl, hp2, hb2⟩
    have hlen := rowsP_len N l
    obtain ⟨L, hL⟩ : ∃ L, L = rowsP N l := ⟨_, rfl⟩
    rw [← hL] at hlen hp2
    rw [← hL]
    have HL := Lib.hid hL
    obtain ⟨g, rfl, hg1, hg2⟩ := RL.at hp2.mk' (by have := HN.out; omega)
    have hob : ∃ ob, ob = w2.heap.size := ⟨_, rfl⟩
    obtain ⟨ob, hob⟩ := hob
    have FB := (Fr.start w2).alloc #[.slice (some ⟨g, 0, none⟩) L.length c2] 65
    obtain ⟨W0, hW0⟩ : ∃ W, W = w2.alloc (.cells #[.slice (some ⟨g, 0, none⟩) L.length c2] 65) := ⟨_, rfl⟩
    rw [← hW0] at FB
    have hst : RsSt W0 w1.heap.size w2.heap.size ob g c2 L := ⟨by rw [hob]; exact FB.at 0 rfl 0 _ rfl, hp2.mk'.below FB.below, by omega⟩
    have HC := Lib.hid (sliceStable_c w1.heap.size w2.heap.size ob g c2 L W0 hst (by have := HN.out; omega) FB.below.size)
    have HB0 := Lib.hid (below_next (below_next HB1.out hb2) FB.below)
    have HW0 := Lib.hid hW0
    have HOB := Lib.hid hob
    have HSZ : Hid (w.heap.size ≤ w1.heap.size ∧ w2.heap.size < W0.heap.size) := ⟨HB1.out.size, FB.le 0 rfl⟩
    have HLEN := Lib.hid hlen
    have x0 : W0.cell? ⟨ob, 0, none⟩ = some (.slice (some ⟨g, 0, none⟩) L.length c2) := hst.c0
    clear hL hp2 hb2 hg1 hg2 hW0 FB hst hob hlen
    go_upto_region 4 with fail
    rw [← HW0.out, ← HOB.out]
    clear HW0 HOB
    have hmf : ∀ (fn : Fn) (first cap : Array Value) (w : World), (Instr.makeFunc fn first cap).run Try.prog w = .ok (.func fn first cap) w := fun _ _ _ _ => rfl
    go_wp2_with fail
    refine HC.out.mono ?_
    rintro e w3 ⟨rfl, hst3, V, hV, hc3⟩
    have hc0 := hst3.c0
    rw [srt_len_all] at hc0
    have HP3 : Hid (Pcs w3 w.heap.size (rwRL.pcs (some ⟨g, 0, none⟩) c2 (srtR L))) := ⟨fun q hq => ownsRow_le (hst3.pc.1.all q hq) HSZ.out.1, hst3.pc.1.sep⟩
    have HB3 := Lib.hid (hc3.below (below_next HB0.out hV) HSZ.out.1)
    clear hst3 hV hc3 x0 HC HR
    go_wp2
    go_ret2
    unfold RwResC
    rw [HT.out.1, HT.out.2, ← HL.out, srt_len_all]
    exact ⟨_, _, rfl, HP3.out, HB3.out⟩

end Go.Proofs.Ytbjgigdkbjabaaa
