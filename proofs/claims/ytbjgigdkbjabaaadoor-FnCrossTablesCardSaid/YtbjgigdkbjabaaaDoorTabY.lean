/- TabY: the table of all scores as lines: both sides. Each contract holds for every argument, under the premises that it states. -/
import Derived.Test.YtbjgigdkbjabaaaDoorTabX
import Derived.Lib.AppendIntMem
namespace Go.Proofs.YtbjgigdkbjabaaaDoor
set_option linter.unusedSimpArgs false
set_option linter.unusedVariables false
set_option linter.unnecessarySimpa false
open Go.RowKit Go.ChangeShapes Go.WideShapes Go.ChangeAt Go.Joins

/-! ### in plain terms -/
def cellX (l : List Mt) (A B : Nat) : List UInt8 := if A = B then [120] else if sumX (cntX (A : Int) (B : Int)) l = 0 then [45] else Lib.decDigits (sumX (oneX (A : Int) (B : Int)) l).toNat
def lineX (l : List Mt) (A : Nat) : Nat → List UInt8
  | 0 => []
  | B + 1 => (if 0 < B then lineX l A B ++ [32] else lineX l A B) ++ cellX l A B
def strX (s : List UInt8) : ByteArray := ⟨s.toArray⟩
def linesX (l : List Mt) (n : Nat) : List ByteArray := (List.range n).map fun A => strX (lineX l A n)
def crossP (n : Int) (l : List Mt) : List ByteArray := if mtsOk n l = true then linesX l n.toNat else []
def crossK (n : Int) (l : List Mt) : Int := if mtsOk n l = true then 0 else 1
theorem cellX_len {l : List Mt} (h : Sc l) (hl : l.length ≤ 150) (A B : Nat) : (cellX l A B).length ≤ 4 := by
  unfold cellX
  split
  · simp
  · split
    · simp
    · have h1 := (x_bd h (A : Int) (B : Int)).1
      exact Nat.le_trans (decDigits_le 3 _ (by omega)) (by omega)
theorem lineX_len {l : List Mt} (h : Sc l) (hl : l.length ≤ 150) (A : Nat) : ∀ B, (lineX l A B).length ≤ 5 * B
  | 0 => by simp [lineX]
  | B + 1 => by
    have h1 := lineX_len h hl A B
    have h2 := cellX_len h hl A B
    unfold lineX
    split <;> simp <;> omega
/-- texts and a code out of a call -/
def StResC (w : World) (xs : List ByteArray) (k : Int) (e : Ending) (w' : World) : Prop := ∃ (a : Option Addr) (c : Nat), e = .returned (.tuple #[.slice a xs.length c, .int .i64 k]) ∧ w'.ownsRow w.heap.size 9 1 (.slice a xs.length c) xs.length (xs.map Value.string) ∧ Below w.heap.size w w'
theorem infoSt : (Tryd.prog.info? 9).map (fun i => (i.zero, i.size, i.bytes)) = some (some (.string ⟨#[]⟩), 1, 16) := by kernel_rfl
@[reducible] def TabB (w : World) : Prop := Lib.TabBelow Tryd.prog w.heap.size w "internal/strconv.uint64pow10" .u64 Lib.pow10Tab

theorem Decimal_c (x : Nat) (w : World) (hx : x ≤ 1000000) (ht : Lib.TabIs Tryd.prog w "internal/strconv.uint64pow10" .u64 Lib.pow10Tab) :
    Calls Tryd.prog 37 #[.int .i64 (x : Int)] w fun e w' => e = .returned (.string (strX (Lib.decDigits x))) ∧ Below w.heap.size w w' := by
  have HC := Lib.hid (Tryd.strconv_FormatInt_10 (x : Int) (by omega) (by omega) w ht)
  have HE : Hid (Lib.itoa (x : Int) = Lib.decDigits x) := by unfold Hid Lib.itoa; rw [if_neg (by omega)]; simp
  go_enter Tryd.func37, Tryd.ntmps37
  go_wp2_with fail
  refine HC.out.mono ?_
  rintro e w1 ⟨rfl, k, os, hw1⟩
  have HB : Hid (Below w.heap.size w w1) := by
    rw [hw1]
    exact Lib.below_grow _ _ (Nat.le_refl _) _ _
  clear hw1 HC
  go_wp2
  go_ret
  exact ⟨by rw [HE.out]; rfl, HB.out⟩

set_option maxRecDepth 100000 in
set_option maxHeartbeats 16000000 in
theorem iCrossTable_c (n : Int) (l : List Mt) (a : Option Addr) (c : Nat) (w : World) (h : Row w a (flat mtRL.f l)) (hm : l.length ≤ 1048576) (ht : TabB w) :
    Calls Tryd.prog 12 #[.int .i64 n, .slice a l.length c] w (StResC w (crossP n l) (crossK n l)) := by
  obtain ⟨i0, hi, hz0, hz1, hz2⟩ := info_parts infoSt
  have HH := Lib.hid h
  have HT := Lib.hid ht
  have HV := Lib.hid (ValidMatches_c n l a c w h hm)
  clear h ht
  cases hv : mtsOk n l with
  | false =>
    have HE : Hid (crossP n l = [] ∧ crossK n l = 1) := by unfold Hid crossP crossK; rw [hv]; exact ⟨rfl, rfl⟩
    rw [hv] at HV
    clear hv
    go_enter Tryd.func12, Tryd.ntmps12
    go_wp2_with fail
    refine HV.out.mono ?_
    rintro e w1 ⟨rfl, hb1⟩
    have HB := Lib.hid hb1
    clear hb1
    go_wp2
    go_ret2
    unfold StResC
    rw [HE.out.1, HE.out.2]
    exact ⟨none, 0, rfl, World.ownsRow_nil _ _ _ _, HB.out⟩
  | true =>
    obtain ⟨⟨hn1, hn2⟩, hl, hok⟩ := mtsOk_parts hv
    obtain ⟨N, rfl⟩ : ∃ N : Nat, n = (N : Int) := ⟨n.toNat, by omega⟩
    have HE : Hid (crossP (N : Int) l = linesX l N ∧ crossK (N : Int) l = 0) := by unfold Hid crossP crossK; rw [hv]; exact ⟨rfl, rfl⟩
    have hs : Sc l := fun m hm => (Mt.ok_parts (hok m hm)).2.2.2
    have HS := Lib.hid hs
    have HL := Lib.hid hl
    have HN : Hid (N ≤ 12) := by unfold Hid; omega
    rw [hv] at HV
    clear hv hok hs hl hm
    go_enter Tryd.func12, Tryd.ntmps12
    go_wp2_with fail
    refine HV.out.mono ?_
    rintro e w1 ⟨rfl, hb1⟩
    have HB0 := Lib.hid (below_next hb1 (below_alloc1 w1 (.cells #[] 9)))
    have HO0 : Hid ((w1.alloc (.cells #[] 9)).ownsRow w.heap.size 9 1 (.slice (some ⟨w1.heap.size, 0, none⟩) 0 0) 0 (((List.range 0).map fun A => strX (lineX l A N)).map Value.string)) := World.ownsRow_lit (base := w.heap.size) (e := 9) (size := 1) w1 #[] 0 hb1.size (Nat.zero_le _) rfl
    clear hb1 HV
    go_upto_region 5 with fail
    go_loopw [6, 19] (fun s i wr => ∃ (k g c : Nat), i = .int .i64 (k : Int) ∧ s = .slice (some ⟨g, 0, none⟩) k c ∧ k ≤ N ∧ Hid (wr.ownsRow w.heap.size 9 1 (.slice (some ⟨g, 0, none⟩) k c) k (((List.range k).map fun A => strX (lineX l A N)).map Value.string)) ∧ Hid (Below w.heap.size w wr)) (fun _ i _ => N - (intOf i).toNat)
    case atStart => exact ⟨0, _, _, rfl, rfl, Nat.zero_le _, HO0, HB0⟩
    case round =>
      clear HO0 HB0
      obtain ⟨k, g, c2, rfl, rfl, hk, HO, HB⟩ := hrel
      by_cases hlt : k < N
      · have hkI : (k : Int) < (N : Int) := by omega
        obtain ⟨wo, hwo⟩ : ∃ W, W = wr := ⟨_, rfl⟩
        subst hwo
        have HL0 : Hid (strX (lineX l k 0) = ⟨#[]⟩) := rfl
        go_wp2_with fail
        rw [← HL0.out]
        go_loopw [8, 23] (fun s i wr2 => ∃ (B : Nat) (ln : List UInt8), i = .int .i64 (B : Int) ∧ s = .string ⟨ln.toArray⟩ ∧ B ≤ N ∧ Hid (ln = lineX l k B) ∧ Hid (Below wo.heap.size wo wr2)) (fun _ i _ => N - (intOf i).toNat)
        case atStart => exact ⟨0, _, rfl, rfl, Nat.zero_le _, Lib.hid rfl, Lib.hid (Below.refl _ _)⟩
        case round =>
          obtain ⟨B, ln, rfl, rfl, hB, HLN, HBI⟩ := hrel
          by_cases hBl : B < N
          · have hBI : (B : Int) < (N : Int) := by omega
            have hN12 := HN.out
            have hlen : ln.length ≤ 60 := by rw [HLN.out]; have := lineX_len HS.out HL.out k B; omega
            have HD := Lib.hid (fun W (hW : Below w.heap.size w W) => direct_c l a c (k : Int) (B : Int) W (HH.out.below hW (Nat.le_refl _)) HL.out HS.out)
            have hwB : IntKind.i64.wrap ((B : Int) + 1) = (B : Int) + 1 := IntWalk.i64_in _ (by omega)
            have hap : ∀ x y : List UInt8, (⟨x.toArray⟩ : ByteArray) ++ ⟨y.toArray⟩ = ⟨(x ++ y).toArray⟩ := ba_app
            by_cases hB0 : 0 < B
            · have hB0I : (0 : Int) < (B : Int) := by omega
              obtain ⟨L1, hL1⟩ : ∃ L, ln ++ [32] = L := ⟨_, rfl⟩
              have HP1 : Hid (lineX l k (B + 1) = L1 ++ cellX l k B) := by unfold Hid; rw [lineX, if_pos hB0, ← HLN.out, hL1]
              have hl1 : L1.length ≤ 61 := by rw [← hL1]; simp; omega
              clear HLN
              go_wp2_with fail
              refine (HD.out _ (HB.out.trans (HBI.out.mono HB.out.size))).mono ?_
              rintro e w2 ⟨rfl, hb2⟩
              have HB2 := Lib.hid (below_next HBI.out hb2)
              clear hb2 HBI HD
              by_cases hAB : k = B
              · have hABI : ((k : Int) == (B : Int)) = true := by rw [hAB]; simp
                have HX : Hid (L1 ++ [120] = lineX l k (B + 1)) := by unfold Hid; rw [HP1.out, cellX, if_pos hAB]
                clear hAB
                go_wp2
                go_roundw
                case rel => exact ⟨B + 1, L1 ++ [120], by go_num, rfl, by omega, HX.out, HB2⟩
                case measure => simp [intOf]; omega
              · have hABI : ((k : Int) == (B : Int)) = false := by simp; omega
                have hABE : ¬ (k : Int) = (B : Int) := by omega
                obtain ⟨O, hO⟩ : ∃ O, O = sumX (oneX (k : Int) (B : Int)) l := ⟨_, rfl⟩
                obtain ⟨C, hC⟩ : ∃ C, C = sumX (cntX (k : Int) (B : Int)) l := ⟨_, rfl⟩
                have hbd := x_bd HS.out (k : Int) (B : Int)
                rw [← hO, ← hC] at hbd
                rw [← hO, ← hC]
                have hl150 := HL.out
                by_cases hC0 : C = 0
                · have HX : Hid (L1 ++ [45] = lineX l k (B + 1)) := by unfold Hid; rw [HP1.out, cellX, if_neg hAB, if_pos (by rw [← hC]; exact hC0)]
                  have hCq : (C == 0) = true := by simpa using hC0
                  clear hAB hO hC hbd
                  go_wp2
                  go_roundw
                  case rel => exact ⟨B + 1, L1 ++ [45], by go_num, rfl, by omega, HX.out, HB2⟩
                  case measure => simp [intOf]; omega
                · obtain ⟨o, rfl⟩ : ∃ o : Nat, O = (o : Int) := ⟨O.toNat, by omega⟩
                  have ho : o ≤ 300 := by omega
                  obtain ⟨G, hG⟩ : ∃ G, G = Lib.decDigits o := ⟨_, rfl⟩
                  have HX : Hid (L1 ++ G = lineX l k (B + 1)) := by unfold Hid; rw [HP1.out, cellX, if_neg hAB, if_neg (by rw [← hC]; exact hC0), ← hO, hG]; rfl
                  have hGl : G.length ≤ 4 := by rw [hG]; exact Nat.le_trans (decDigits_le 3 o (by omega)) (by omega)
                  have HDC : Hid (Calls Tryd.prog 37 #[.int .i64 (o : Int)] w2 fun e w' => e = .returned (.string ⟨G.toArray⟩) ∧ Below w2.heap.size w2 w') := by rw [hG]; exact Decimal_c o w2 (by omega) (HT.out _ (HB.out.trans (HB2.out.mono HB.out.size)))
                  have hCq : (C == 0) = false := by simpa using hC0
                  clear hAB hO hC hbd hG ho
                  go_wp2_with fail
                  refine HDC.out.mono ?_
                  rintro e w3 ⟨rfl, hb3⟩
                  have HB3 := Lib.hid (below_next HB2.out hb3)
                  clear hb3 HB2 HDC
                  have HB2 := HB3
                  clear HB3
                  go_wp2
                  go_roundw
                  case rel => exact ⟨B + 1, L1 ++ G, by go_num, rfl, by omega, HX.out, HB2⟩
                  case measure => simp [intOf]; omega
            · have hB0I : ¬ (0 : Int) < (B : Int) := by omega
              have HP1 : Hid (lineX l k (B + 1) = ln ++ cellX l k B) := by unfold Hid; rw [lineX, if_neg hB0, ← HLN.out]
              clear HLN
              go_wp2_with fail
              refine (HD.out _ (HB.out.trans (HBI.out.mono HB.out.size))).mono ?_
              rintro e w2 ⟨rfl, hb2⟩
              have HB2 := Lib.hid (below_next HBI.out hb2)
              clear hb2 HBI HD
              by_cases hAB : k = B
              · have hABI : ((k : Int) == (B : Int)) = true := by rw [hAB]; simp
                have HX : Hid (ln ++ [120] = lineX l k (B + 1)) := by unfold Hid; rw [HP1.out, cellX, if_pos hAB]
                clear hAB
                go_wp2
                go_roundw
                case rel => exact ⟨B + 1, ln ++ [120], by go_num, rfl, by omega, HX.out, HB2⟩
                case measure => simp [intOf]; omega
              · have hABI : ((k : Int) == (B : Int)) = false := by simp; omega
                have hABE : ¬ (k : Int) = (B : Int) := by omega
                obtain ⟨O, hO⟩ : ∃ O, O = sumX (oneX (k : Int) (B : Int)) l := ⟨_, rfl⟩
                obtain ⟨C, hC⟩ : ∃ C, C = sumX (cntX (k : Int) (B : Int)) l := ⟨_, rfl⟩
                have hbd := x_bd HS.out (k : Int) (B : Int)
                rw [← hO, ← hC] at hbd
                rw [← hO, ← hC]
                have hl150 := HL.out
                by_cases hC0 : C = 0
                · have HX : Hid (ln ++ [45] = lineX l k (B + 1)) := by unfold Hid; rw [HP1.out, cellX, if_neg hAB, if_pos (by rw [← hC]; exact hC0)]
                  have hCq : (C == 0) = true := by simpa using hC0
                  clear hAB hO hC hbd
                  go_wp2
                  go_roundw
                  case rel => exact ⟨B + 1, ln ++ [45], by go_num, rfl, by omega, HX.out, HB2⟩
                  case measure => simp [intOf]; omega
                · obtain ⟨o, rfl⟩ : ∃ o : Nat, O = (o : Int) := ⟨O.toNat, by omega⟩
                  have ho : o ≤ 300 := by omega
                  obtain ⟨G, hG⟩ : ∃ G, G = Lib.decDigits o := ⟨_, rfl⟩
                  have HX : Hid (ln ++ G = lineX l k (B + 1)) := by unfold Hid; rw [HP1.out, cellX, if_neg hAB, if_neg (by rw [← hC]; exact hC0), ← hO, hG]; rfl
                  have hGl : G.length ≤ 4 := by rw [hG]; exact Nat.le_trans (decDigits_le 3 o (by omega)) (by omega)
                  have HDC : Hid (Calls Tryd.prog 37 #[.int .i64 (o : Int)] w2 fun e w' => e = .returned (.string ⟨G.toArray⟩) ∧ Below w2.heap.size w2 w') := by rw [hG]; exact Decimal_c o w2 (by omega) (HT.out _ (HB.out.trans (HB2.out.mono HB.out.size)))
                  have hCq : (C == 0) = false := by simpa using hC0
                  clear hAB hO hC hbd hG ho
                  go_wp2_with fail
                  refine HDC.out.mono ?_
                  rintro e w3 ⟨rfl, hb3⟩
                  have HB3 := Lib.hid (below_next HB2.out hb3)
                  clear hb3 HB2 HDC
                  have HB2 := HB3
                  clear HB3
                  go_wp2
                  go_roundw
                  case rel => exact ⟨B + 1, ln ++ G, by go_num, rfl, by omega, HX.out, HB2⟩
                  case measure => simp [intOf]; omega
          · have hBN : N = B := by omega
            subst hBN
            have hBI : ¬ (N : Int) < (N : Int) := by omega
            have HV : Hid (((List.range (k + 1)).map fun A => strX (lineX l A N)).map Value.string = ((List.range k).map fun A => strX (lineX l A N)).map Value.string ++ [.string ⟨ln.toArray⟩]) := by
              unfold Hid
              rw [List.range_succ, List.map_append, List.map_append, HLN.out]
              rfl
            obtain ⟨V, hV⟩ : ∃ V, V = ((List.range k).map fun A => strX (lineX l A N)).map Value.string := ⟨_, rfl⟩
            rw [← hV] at HO HV
            have HBX2 : Hid (BoxP wr.heap.size [.string ⟨ln.toArray⟩] (wr.alloc (.cells #[.string ⟨ln.toArray⟩] 9))) := ((Fr.start wr).alloc #[.string ⟨ln.toArray⟩] 9).at 0 rfl
            have HOW : Hid ((wr.alloc (.cells #[.string ⟨ln.toArray⟩] 9)).ownsRow w.heap.size 9 1 (.slice (some ⟨g, 0, none⟩) k c2) k V) := own_below HO.out (below_next HBI.out (below_alloc1 _ _)) (Nat.le_refl _)
            have HBW : Hid (Below w.heap.size w (wr.alloc (.cells #[.string ⟨ln.toArray⟩] 9))) := below_next (below_next HB.out HBI.out) (below_alloc1 _ _)
            have hwk : IntKind.i64.wrap ((k : Int) + 1) = (k : Int) + 1 := IntWalk.i64_in _ (by have := HN.out; omega)
            have HKL : Hid (k < 12) := by have := HN.out; unfold Hid; omega
            clear HO HB HBI hV HLN hB
            go_wp2_with (at_builtin; refine wpList_append_own2 _ rfl _ _ 30 rfl w.heap.size 9 i0 (.string ⟨#[]⟩) 1 16 Tryd.underlying30 hi hz0 hz1 hz2 rfl (by decide) (.slice (some ⟨g, 0, none⟩) k c2) k V rfl HOW.out ⟨wr.heap.size, 0, none⟩ 1 1 [.string ⟨ln.toArray⟩] rfl rfl (fun j u hu => by rw [addr_addX, Nat.zero_add]; exact HBX2.out j u hu) (by intro u hu; simp at hu; subst hu; rfl) (by have := HKL.out; unfold maxLen; omega) (by have := HKL.out; omega) (HBW.out.size) ?_)
            intro ad6 c6 w6 ho6 hg6 hn6
            obtain ⟨g6, rfl, _, _⟩ := own_lt_n ho6 (by omega)
            have HO6 : Hid (w6.ownsRow w.heap.size 9 1 (.slice (some ⟨g6, 0, none⟩) (k + 1) c6) (k + 1) (((List.range (k + 1)).map fun A => strX (lineX l A N)).map Value.string)) := by
              unfold Hid
              rw [HV.out]
              exact ho6
            have HB6 := Lib.hid (below_grown HBW.out hg6 (fun q hq => (HOW.out.lt q hq).1))
            clear ho6 hg6 hn6 HOW HBX2 HBW
            go_wp2
            go_roundw
            case rel => exact ⟨k + 1, g6, c6, by go_num, rfl, by omega, HO6, HB6⟩
            case measure => simp [intOf]; omega
      · have hkN : N = k := by omega
        subst hkN
        have hkI : ¬ (N : Int) < (N : Int) := by omega
        have hlen : (linesX l N).length = N := by simp [linesX]
        have HLE := Lib.hid hlen
        have ho : wr.ownsRow w.heap.size 9 1 (.slice (some ⟨g, 0, none⟩) N c2) N ((linesX l N).map Value.string) := HO.out
        have HO2 := Lib.hid ho
        clear HO ho hlen
        go_wp2
        go_ret2
        unfold StResC
        rw [HE.out.1, HE.out.2, HLE.out]
        exact ⟨_, _, rfl, HO2.out, HB.out⟩

end Go.Proofs.YtbjgigdkbjabaaaDoor
