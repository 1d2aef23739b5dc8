/- TabN: decimal texts of negative numbers: the reference's function (printed by gen/decn.py out of TabX). Each contract holds for every argument, under the premises that it states. -/
import Derived.Test.YtbjgigdkbjabaaaDoorTabX
namespace Go.Proofs.YtbjgigdkbjabaaaDoor
set_option linter.unusedSimpArgs false
set_option linter.unusedVariables false
set_option linter.unnecessarySimpa false
open Go.RowKit Go.ChangeShapes Go.WideShapes Go.ChangeAt Go.Joins

set_option maxRecDepth 100000 in
set_option maxHeartbeats 8000000 in
theorem l01DecN_c (x : Nat) (w : World) (hx : x ≤ 999999999999999999) (hxp : 0 < x) :
    Calls Tryd.prog 33 #[.int .i64 (-(x : Int))] w fun e w' => e = .returned (.string ⟨(45 :: Lib.decDigits x).toArray⟩) ∧ Below w.heap.size w w' := by
  obtain ⟨i0, hi, hz0, hz1, hz2⟩ := info_parts infoU8
  have HB0 : Hid (Below w.heap.size w (w.alloc (.cells #[] 5))) := below_alloc1 _ _
  have HO0 : Hid ((w.alloc (.cells #[] 5)).ownsRow w.heap.size 5 1 (.slice (some ⟨w.heap.size, 0, none⟩) 0 0) 0 (u8s [])) := World.ownsRow_lit (base := w.heap.size) (e := 5) (size := 1) w #[] 0 (Nat.le_refl _) (Nat.zero_le _) rfl
  go_enter Tryd.func33, Tryd.ntmps33
  go_upto_region 3 with fail
  go_loopw [3, 4] (fun s k wr => ∃ (n g c : Nat) (out : List UInt8), k = .int .i64 (-(n : Int)) ∧ s = .slice (some ⟨g, 0, none⟩) out.length c ∧ n ≤ 999999999999999999 ∧ Hid (decT n out = decT x []) ∧ Hid (wr.ownsRow w.heap.size 5 1 (.slice (some ⟨g, 0, none⟩) out.length c) out.length (u8s out)) ∧ Hid (Below w.heap.size w wr)) (fun _ k _ => (-(intOf k)).toNat)
  case atStart => exact ⟨x, _, _, [], rfl, rfl, hx, Lib.hid rfl, HO0, HB0⟩
  case round =>
    clear HO0 HB0
    obtain ⟨n, g, c, out, rfl, rfl, hn, HD, HO, HB⟩ := hrel
    by_cases hn0 : 0 < n
    · have hnz : ¬ (-(n : Int)) = 0 := by omega
      have hnz2 : ((-(n : Int)) != 0) = true := by simpa using hnz
      have htm : (-(n : Int)).tmod 10 = -((n : Int) % 10) := by rw [Int.neg_tmod, Int.tmod_eq_emod_of_nonneg (by omega)]
      have HSZ : Hid (w.heap.size ≤ wr.heap.size) := HB.out.size
      have HOL2 : Hid (out.length ≤ 1000000) := Nat.le_trans (decT_len hx HD.out) (by omega)
      have hu : (UInt8.ofNat (48 + n % 10)).toNat = 48 + n % 10 := by simp; omega
      have HND : Hid (decT (n / 10) (UInt8.ofNat (48 + n % 10) :: out) = decT x []) := (decT_step hn0 out).trans HD.out
      have hdiv : IntKind.i64.wrap ((-(n : Int)).tdiv 10) = -((n / 10 : Nat) : Int) := by
        have : (-(n : Int)).tdiv 10 = -((n / 10 : Nat) : Int) := by rw [Int.neg_tdiv, Int.tdiv_eq_ediv_of_nonneg (by omega)]; omega
        rw [this]
        exact IntWalk.i64_in _ (by omega)
      have hlen1 : (u8s out).length = out.length * 1 := by simp [u8s]
      have HL1 := Lib.hid hlen1
      by_cases hpos : 0 < (n : Int) % 10
      · have hr1 : -((n : Int) % 10) < 0 := by omega
        have hwn : IntKind.i64.wrap ((n : Int) % 10) = (n : Int) % 10 := IntWalk.i64_in _ (by omega)
        have HOL : Hid ((wr.alloc (.cells #[.int .u8 (48 + (n : Int) % 10)] 5)).ownsRow wr.heap.size 5 1 (.slice (some ⟨wr.heap.size, 0, none⟩) 1 1) 1 [.int .u8 (48 + (n : Int) % 10)]) := World.ownsRow_lit (base := wr.heap.size) (e := 5) (size := 1) wr #[.int .u8 (48 + (n : Int) % 10)] 1 (Nat.le_refl _) (by unfold maxLen; omega) rfl
        have HOW : Hid ((wr.alloc (.cells #[.int .u8 (48 + (n : Int) % 10)] 5)).ownsRow w.heap.size 5 1 (.slice (some ⟨g, 0, none⟩) out.length c) out.length (u8s out)) := own_below HO.out (below_alloc1 _ _) (Nat.le_refl _)
        have HBW : Hid (Below w.heap.size w (wr.alloc (.cells #[.int .u8 (48 + (n : Int) % 10)] 5))) := below_next HB.out (below_alloc1 _ _)
        have HU : Hid (Value.int .u8 (48 + (n : Int) % 10) = .int .u8 ((UInt8.ofNat (48 + n % 10)).toNat : Int)) := by unfold Hid; rw [hu]; congr 1
        clear hu HO HB hlen1
        go_wp2_with (at_builtin; refine wpList_append_own2 _ rfl _ _ 40 rfl wr.heap.size 5 i0 (.int .u8 0) 1 1 Tryd.underlying40 hi hz0 hz1 hz2 rfl (by decide) (.slice (some ⟨wr.heap.size, 0, none⟩) 1 1) 1 [.int .u8 (48 + (n : Int) % 10)] rfl HOL.out ⟨g, 0, none⟩ out.length c (u8s out) rfl HL1.out (HOW.out.cells (g := g) rfl) (by intro u hu; simp [u8s] at hu; obtain ⟨_, _, rfl⟩ := hu; rfl) (by have := HOL2.out; unfold maxLen; omega) (by have := HOL2.out; omega) (by simp) ?_)
        intro ad6 c6 w6 ho6 hg6 hn6
        obtain ⟨g6, rfl, _, _⟩ := own_lt_n ho6 (by omega)
        have HB6 : Hid (Below w.heap.size w w6) := below_grown HBW.out hg6 (fun q hq => by have := (HOL.out.lt q hq).1; have := HSZ.out; omega)
        have hl6 : 1 + out.length = (UInt8.ofNat (48 + n % 10) :: out).length := by simp; omega
        have HO6 : Hid (w6.ownsRow w.heap.size 5 1 (.slice (some ⟨g6, 0, none⟩) (UInt8.ofNat (48 + n % 10) :: out).length c6) (UInt8.ofNat (48 + n % 10) :: out).length (u8s (UInt8.ofNat (48 + n % 10) :: out))) := by
          unfold Hid
          rw [← hl6]
          have h1 := ownsRow_le ho6 HSZ.out
          unfold u8s
          rw [List.map_cons, ← HU.out]
          exact h1
        have HL6 := Lib.hid hl6
        clear ho6 hg6 hn6 HOL HOW HBW hl6
        go_wp2
        go_roundw
        case rel => exact ⟨n / 10, g6, c6, UInt8.ofNat (48 + n % 10) :: out, by go_num, by rw [← HL6.out], by omega, HND, HO6, HB6⟩
        case measure => simp [intOf]; omega
      · have hz : (n : Int) % 10 = 0 := by omega
        have HOL : Hid ((wr.alloc (.cells #[.int .u8 48] 5)).ownsRow wr.heap.size 5 1 (.slice (some ⟨wr.heap.size, 0, none⟩) 1 1) 1 [.int .u8 48]) := World.ownsRow_lit (base := wr.heap.size) (e := 5) (size := 1) wr #[.int .u8 48] 1 (Nat.le_refl _) (by unfold maxLen; omega) rfl
        have HOW : Hid ((wr.alloc (.cells #[.int .u8 48] 5)).ownsRow w.heap.size 5 1 (.slice (some ⟨g, 0, none⟩) out.length c) out.length (u8s out)) := own_below HO.out (below_alloc1 _ _) (Nat.le_refl _)
        have HBW : Hid (Below w.heap.size w (wr.alloc (.cells #[.int .u8 48] 5))) := below_next HB.out (below_alloc1 _ _)
        have HU : Hid (Value.int .u8 48 = .int .u8 ((UInt8.ofNat (48 + n % 10)).toNat : Int)) := by unfold Hid; rw [hu]; congr 1; omega
        clear hu HO HB hlen1
        go_wp2_with (at_builtin; refine wpList_append_own2 _ rfl _ _ 40 rfl wr.heap.size 5 i0 (.int .u8 0) 1 1 Tryd.underlying40 hi hz0 hz1 hz2 rfl (by decide) (.slice (some ⟨wr.heap.size, 0, none⟩) 1 1) 1 [.int .u8 48] rfl HOL.out ⟨g, 0, none⟩ out.length c (u8s out) rfl HL1.out (HOW.out.cells (g := g) rfl) (by intro u hu; simp [u8s] at hu; obtain ⟨_, _, rfl⟩ := hu; rfl) (by have := HOL2.out; unfold maxLen; omega) (by have := HOL2.out; omega) (by simp) ?_)
        intro ad6 c6 w6 ho6 hg6 hn6
        obtain ⟨g6, rfl, _, _⟩ := own_lt_n ho6 (by omega)
        have HB6 : Hid (Below w.heap.size w w6) := below_grown HBW.out hg6 (fun q hq => by have := (HOL.out.lt q hq).1; have := HSZ.out; omega)
        have hl6 : 1 + out.length = (UInt8.ofNat (48 + n % 10) :: out).length := by simp; omega
        have HO6 : Hid (w6.ownsRow w.heap.size 5 1 (.slice (some ⟨g6, 0, none⟩) (UInt8.ofNat (48 + n % 10) :: out).length c6) (UInt8.ofNat (48 + n % 10) :: out).length (u8s (UInt8.ofNat (48 + n % 10) :: out))) := by
          unfold Hid
          rw [← hl6]
          have h1 := ownsRow_le ho6 HSZ.out
          unfold u8s
          rw [List.map_cons, ← HU.out]
          exact h1
        have HL6 := Lib.hid hl6
        clear ho6 hg6 hn6 HOL HOW HBW hl6
        go_wp2
        go_roundw
        case rel => exact ⟨n / 10, g6, c6, UInt8.ofNat (48 + n % 10) :: out, by go_num, by rw [← HL6.out], by omega, HND, HO6, HB6⟩
        case measure => simp [intOf]; omega
    · have hnn : n = 0 := by omega
      subst hnn
      have hd := HD.out
      unfold decT at hd
      rw [if_pos rfl] at hd
      by_cases hx0 : x = 0
      · omega
      · rw [if_neg hx0, List.append_nil] at hd
        have hlp : 0 < out.length := by rw [hd]; exact decDigits_len x
        have hlz : ¬ (out.length : Int) = 0 := by omega
        have hlz2 : ((out.length : Int) == 0) = false := by simpa using hlz
        have hlz3 : ¬ out = [] := by intro e; rw [e] at hlp; simp at hlp
        have hcv : (convert 40 9 (.slice (some ⟨g, 0, none⟩) out.length c)).run Tryd.prog wr = .ok (.string ⟨out.toArray⟩) wr := by
          refine run_convert_bytes_back _ _ _ _ _ c out Tryd.underlying40 Tryd.underlying5 Tryd.underlying9 (fun j hj => ?_)
          have h1 := HO.out.cells (g := g) rfl j (.int .u8 (out[j].toNat : Int)) (by simp [u8s, hj])
          exact h1
        have hxn : -(x : Int) < 0 := by omega
        have hap := ba_app
        have hol : out.length ≤ 19 := decT_len hx HD.out
        have hsz : ∀ x : List UInt8, (ByteArray.mk x.toArray).size = x.length := fun _ => by simp [ByteArray.size]
        have HE : Hid (out = Lib.decDigits x) := hd
        clear hd HD HO hn hn0 hx0 hlp
        go_wp2
        go_ret
        exact ⟨by rw [← HE.out]; rfl, HB.out⟩

end Go.Proofs.YtbjgigdkbjabaaaDoor
