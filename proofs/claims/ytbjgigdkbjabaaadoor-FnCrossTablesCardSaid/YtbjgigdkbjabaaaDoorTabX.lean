/- TabX: decimal texts, and the scores of two players against each other: both sides. Each contract holds for every argument, under the premises that it states. -/
import Derived.Test.YtbjgigdkbjabaaaDoorTab1
import Derived.Test.YtbjgigdkbjabaaaDoorStrs
import Derived.Test.YtbjgigdkbjabaaaDoorShlf
namespace Go.Proofs.YtbjgigdkbjabaaaDoor
set_option linter.unusedSimpArgs false
set_option linter.unusedVariables false
set_option linter.unnecessarySimpa false
open Go.RowKit Go.ChangeShapes Go.WideShapes Go.ChangeAt Go.Joins

def decT (n : Nat) (out : List UInt8) : List UInt8 := if n = 0 then out else Lib.decDigits n ++ out
theorem decT_step {n : Nat} (h : 0 < n) (out : List UInt8) : decT (n / 10) (UInt8.ofNat (48 + n % 10) :: out) = decT n out := by
  unfold decT
  rw [if_neg (show ¬ n = 0 by omega)]
  by_cases h1 : n < 10
  · rw [if_pos (by omega), Lib.decDigits, dif_pos h1, Nat.mod_eq_of_lt h1]
    rfl
  · rw [if_neg (by omega)]
    conv => rhs; rw [Lib.decDigits, dif_neg h1]
    rw [List.append_assoc]
    rfl
theorem decDigits_len (n : Nat) : 0 < (Lib.decDigits n).length := by
  rw [Lib.decDigits]
  split
  · simp
  · simp
theorem ba_app (x y : List UInt8) : (⟨x.toArray⟩ : ByteArray) ++ ⟨y.toArray⟩ = ⟨(x ++ y).toArray⟩ := by
  apply ByteArray.ext
  simp
theorem decDigits_le : ∀ (k n : Nat), n < 10 ^ (k + 1) → (Lib.decDigits n).length ≤ k + 1
  | 0, n, h => by rw [Lib.decDigits, dif_pos (by omega)]; simp
  | k + 1, n, h => by
    rw [Lib.decDigits]
    split
    · simp
    · have := decDigits_le k (n / 10) (by rw [Nat.pow_succ] at h; omega)
      simp
      omega
theorem decT_len {n x : Nat} {out : List UInt8} (hx : x ≤ 999999999999999999) (h : decT n out = decT x []) : out.length ≤ 19 := by
  have h1 : out.length ≤ (decT n out).length := by unfold decT; split <;> simp
  rw [h] at h1
  have h2 : (decT x []).length ≤ 18 := by
    unfold decT
    split
    · simp
    · rw [List.append_nil]
      exact decDigits_le 17 x (by omega)
  omega
def u8s (l : List UInt8) : List Value := l.map fun b => Value.int .u8 (b.toNat : Int)
theorem infoU8 : (Tryd.prog.info? 5).map (fun i => (i.zero, i.size, i.bytes)) = some (some (.int .u8 0), 1, 1) := by kernel_rfl
theorem addr_addX (b o j : Nat) : (⟨b, o, none⟩ : Addr).add j = ⟨b, o + j, none⟩ := by
  by_cases h : j = 0 <;> simp [Addr.add, h]
set_option maxRecDepth 100000 in
set_option maxHeartbeats 8000000 in
theorem l01Dec_c (x : Nat) (w : World) (hx : x ≤ 999999999999999999) :
    Calls Tryd.prog 33 #[.int .i64 (x : Int)] w fun e w' => e = .returned (.string ⟨(Lib.decDigits x).toArray⟩) ∧ Below w.heap.size w w' := by
  obtain ⟨i0, hi, hz0, hz1, hz2⟩ := info_parts infoU8
  have HB0 : Hid (Below w.heap.size w (w.alloc (.cells #[] 5))) := below_alloc1 _ _
  have HO0 : Hid ((w.alloc (.cells #[] 5)).ownsRow w.heap.size 5 1 (.slice (some ⟨w.heap.size, 0, none⟩) 0 0) 0 (u8s [])) := World.ownsRow_lit (base := w.heap.size) (e := 5) (size := 1) w #[] 0 (Nat.le_refl _) (Nat.zero_le _) rfl
  go_enter Tryd.func33, Tryd.ntmps33
  go_upto_region 3 with fail
  go_loopw [3, 4] (fun s k wr => ∃ (n g c : Nat) (out : List UInt8), k = .int .i64 (n : Int) ∧ s = .slice (some ⟨g, 0, none⟩) out.length c ∧ n ≤ 999999999999999999 ∧ Hid (decT n out = decT x []) ∧ Hid (wr.ownsRow w.heap.size 5 1 (.slice (some ⟨g, 0, none⟩) out.length c) out.length (u8s out)) ∧ Hid (Below w.heap.size w wr)) (fun _ k _ => (intOf k).toNat)
  case atStart => exact ⟨x, _, _, [], rfl, rfl, hx, Lib.hid rfl, HO0, HB0⟩
  case round =>
    clear HO0 HB0
    obtain ⟨n, g, c, out, rfl, rfl, hn, HD, HO, HB⟩ := hrel
    by_cases hn0 : 0 < n
    · have hnz : ¬ (n : Int) = 0 := by omega
      have hnz2 : ((n : Int) != 0) = true := by simpa using hnz
      have HOL : Hid ((wr.alloc (.cells #[.int .u8 (48 + (n : Int) % 10)] 5)).ownsRow wr.heap.size 5 1 (.slice (some ⟨wr.heap.size, 0, none⟩) 1 1) 1 [.int .u8 (48 + (n : Int) % 10)]) := World.ownsRow_lit (base := wr.heap.size) (e := 5) (size := 1) wr #[.int .u8 (48 + (n : Int) % 10)] 1 (Nat.le_refl _) (by unfold maxLen; omega) rfl
      have HOW : Hid ((wr.alloc (.cells #[.int .u8 (48 + (n : Int) % 10)] 5)).ownsRow w.heap.size 5 1 (.slice (some ⟨g, 0, none⟩) out.length c) out.length (u8s out)) := own_below HO.out (below_alloc1 _ _) (Nat.le_refl _)
      have HBW : Hid (Below w.heap.size w (wr.alloc (.cells #[.int .u8 (48 + (n : Int) % 10)] 5))) := below_next HB.out (below_alloc1 _ _)
      have HSZ : Hid (w.heap.size ≤ wr.heap.size) := HB.out.size
      have HOL2 : Hid (out.length ≤ 1000000) := Nat.le_trans (decT_len hx HD.out) (by omega)
      have hu : (UInt8.ofNat (48 + n % 10)).toNat = 48 + n % 10 := by simp; omega
      have HU : Hid (Value.int .u8 (48 + (n : Int) % 10) = .int .u8 ((UInt8.ofNat (48 + n % 10)).toNat : Int)) := by unfold Hid; rw [hu]; congr 1
      have HND : Hid (decT (n / 10) (UInt8.ofNat (48 + n % 10) :: out) = decT x []) := (decT_step hn0 out).trans HD.out
      have hdiv : IntKind.i64.wrap ((n : Int).tdiv 10) = ((n / 10 : Nat) : Int) := by
        have : (n : Int).tdiv 10 = ((n / 10 : Nat) : Int) := by rw [Int.tdiv_eq_ediv_of_nonneg (by omega)]; omega
        rw [this]
        exact IntWalk.i64_in _ (by omega)
      have hlen1 : (u8s out).length = out.length * 1 := by simp [u8s]
      have HL1 := Lib.hid hlen1
      have hr0 : ¬ (n : Int) % 10 < 0 := by omega
      clear hu HO HB hlen1
      go_wp2_with (at_builtin; refine wpList_append_own2 _ rfl _ _ 40 rfl wr.heap.size 5 i0 (.int .u8 0) 1 1 Tryd.underlying40 hi hz0 hz1 hz2 rfl (by decide) (.slice (some ⟨wr.heap.size, 0, none⟩) 1 1) 1 [.int .u8 (48 + (n : Int) % 10)] rfl HOL.out ⟨g, 0, none⟩ out.length c (u8s out) rfl HL1.out (HOW.out.cells (g := g) rfl) (by intro u hu; simp [u8s] at hu; obtain ⟨_, _, rfl⟩ := hu; rfl) (by have := HOL2.out; unfold maxLen; omega) (by have := HOL2.out; omega) (by simp) ?_)
      intro ad6 c6 w6 ho6 hg6 hn6
      obtain ⟨g6, rfl, _, _⟩ := own_lt_n ho6 (by omega)
      have HB6 : Hid (Below w.heap.size w w6) := below_grown HBW.out hg6 (fun q hq => by have := (HOL.out.lt q hq).1; have := HSZ.out; omega)
      have hl6 : 1 + out.length = (UInt8.ofNat (48 + n % 10) :: out).length := by simp; omega
      have HO6 : Hid (w6.ownsRow w.heap.size 5 1 (.slice (some ⟨g6, 0, none⟩) (UInt8.ofNat (48 + n % 10) :: out).length c6) (UInt8.ofNat (48 + n % 10) :: out).length (u8s (UInt8.ofNat (48 + n % 10) :: out))) := by
        unfold Hid
        rw [← hl6]
        have h1 := ownsRow_le ho6 HSZ.out
        unfold u8s
        rw [List.map_cons, ← HU.out]
        exact h1
      have HL6 := Lib.hid hl6
      clear ho6 hg6 hn6 HOL HOW HBW hl6
      go_wp2
      go_roundw
      case rel => exact ⟨n / 10, g6, c6, UInt8.ofNat (48 + n % 10) :: out, by go_num, by rw [← HL6.out], by omega, HND, HO6, HB6⟩
      case measure => simp [intOf]; omega
    · have hnn : n = 0 := by omega
      subst hnn
      have hd := HD.out
      unfold decT at hd
      rw [if_pos rfl] at hd
      by_cases hx0 : x = 0
      · subst hx0
        rw [if_pos rfl] at hd
        subst hd
        have HE : Hid (Lib.decDigits 0 = [48]) := by unfold Hid; rw [Lib.decDigits, dif_pos (by decide)]; rfl
        clear HD HO hn hn0
        go_wp2
        go_ret
        exact ⟨by rw [HE.out]; rfl, HB.out⟩
      · rw [if_neg hx0, List.append_nil] at hd
        have hlp : 0 < out.length := by rw [hd]; exact decDigits_len x
        have hlz : ¬ (out.length : Int) = 0 := by omega
        have hlz2 : ((out.length : Int) == 0) = false := by simpa using hlz
        have hlz3 : ¬ out = [] := by intro e; rw [e] at hlp; simp at hlp
        have hcv : (convert 40 9 (.slice (some ⟨g, 0, none⟩) out.length c)).run Tryd.prog wr = .ok (.string ⟨out.toArray⟩) wr := by
          refine run_convert_bytes_back _ _ _ _ _ c out Tryd.underlying40 Tryd.underlying5 Tryd.underlying9 (fun j hj => ?_)
          have h1 := HO.out.cells (g := g) rfl j (.int .u8 (out[j].toNat : Int)) (by simp [u8s, hj])
          exact h1
        have hxn : ¬ (x : Int) < 0 := by omega
        have HE : Hid (out = Lib.decDigits x) := hd
        clear hd HD HO hn hn0 hx0 hlp
        go_wp2
        go_ret
        exact ⟨by rw [← HE.out]; rfl, HB.out⟩

/-! ### the score of two players against each other, in plain terms -/
def sumX (f : Mt → Int) : List Mt → Int
  | [] => 0
  | m :: l => f m + sumX f l
theorem sumX_app (f : Mt → Int) : ∀ (l k : List Mt), sumX f (l ++ k) = sumX f l + sumX f k
  | [], k => by simp [sumX]
  | m :: l, k => by rw [List.cons_append, sumX, sumX, sumX_app f l k]; omega
theorem sumX_step (f : Mt → Int) {l : List Mt} {k : Nat} (hk : k < l.length) : sumX f (l.take (k + 1)) = sumX f (l.take k) + f l[k] := by
  rw [List.take_succ_eq_append_getElem hk, sumX_app]
  simp [sumX]
theorem sumX_bd {f : Mt → Int} {c : Nat} : ∀ (l : List Mt), (∀ m ∈ l, 0 ≤ f m ∧ f m ≤ c) → 0 ≤ sumX f l ∧ sumX f l ≤ c * l.length
  | [], _ => by simp [sumX]
  | m :: l, h => by
    have h1 := h m (List.mem_cons_self ..)
    have h2 := sumX_bd l (fun x hx => h x (List.mem_cons_of_mem _ hx))
    simp only [sumX, List.length_cons]
    have h3 : (c : Int) * ((l.length + 1 : Nat) : Int) = c * l.length + c := by rw [Int.natCast_add, Int.mul_add]; simp
    omega
def oneX (A B : Int) (m : Mt) : Int := if m.a = A ∧ m.b = B then m.score else if m.a = B ∧ m.b = A then 2 - m.score else 0
def twoX (A B : Int) (m : Mt) : Int := if m.a = A ∧ m.b = B then 2 - m.score else if m.a = B ∧ m.b = A then m.score else 0
def cntX (A B : Int) (m : Mt) : Int := if m.a = A ∧ m.b = B then 1 else if m.a = B ∧ m.b = A then 1 else 0
theorem two_cnt (A B : Int) : ∀ l : List Mt, sumX (oneX A B) l + sumX (twoX A B) l = 2 * sumX (cntX A B) l
  | [] => rfl
  | m :: l => by
    have := two_cnt A B l
    simp only [sumX]
    have h : oneX A B m + twoX A B m = 2 * cntX A B m := by
      unfold oneX twoX cntX
      split
      · omega
      · split <;> omega
    omega
/-- matches whose scores are valid -/
def Sc (l : List Mt) : Prop := ∀ m ∈ l, 0 ≤ m.score ∧ m.score ≤ 2
theorem x_bd {l : List Mt} (h : Sc l) (A B : Int) : (0 ≤ sumX (oneX A B) l ∧ sumX (oneX A B) l ≤ 2 * l.length) ∧ (0 ≤ sumX (twoX A B) l ∧ sumX (twoX A B) l ≤ 2 * l.length) ∧ (0 ≤ sumX (cntX A B) l ∧ sumX (cntX A B) l ≤ l.length) := by
  have h1 := sumX_bd (f := oneX A B) (c := 2) l (fun m hm => by have := h m hm; unfold oneX; split <;> (try split) <;> omega)
  have h2 := sumX_bd (f := twoX A B) (c := 2) l (fun m hm => by have := h m hm; unfold twoX; split <;> (try split) <;> omega)
  have h3 := sumX_bd (f := cntX A B) (c := 1) l (fun m hm => by unfold cntX; split <;> (try split) <;> omega)
  omega
theorem Sc.take {l : List Mt} (h : Sc l) (k : Nat) : Sc (l.take k) := fun m hm => h m (List.mem_of_mem_take hm)

set_option maxRecDepth 100000 in
set_option maxHeartbeats 8000000 in
theorem direct_c (l : List Mt) (a : Option Addr) (c : Nat) (A B : Int) (w : World) (h : Row w a (flat mtRL.f l)) (hl : l.length ≤ 150) (hs : Sc l) :
    Calls Tryd.prog 36 #[.slice a l.length c, .int .i64 A, .int .i64 B] w fun e w' => e = .returned (.tuple #[.int .i64 (sumX (oneX A B) l), .int .i64 (sumX (twoX A B) l), .int .i64 (sumX (cntX A B) l)]) ∧ Below w.heap.size w w' := by
  have HH := Lib.hid h
  have HS := Lib.hid hs
  clear h hs
  go_enter Tryd.func36, Tryd.ntmps36
  go_wp2_with fail
  go_loopw [9, 10, 11, 16] (fun o t n i wr => ∃ (k : Nat), i = .int .i64 (k : Int) ∧ o = .int .i64 (sumX (oneX A B) (l.take k)) ∧ t = .int .i64 (sumX (twoX A B) (l.take k)) ∧ n = .int .i64 (sumX (cntX A B) (l.take k)) ∧ k ≤ l.length ∧ Hid (Below w.heap.size w wr)) (fun _ _ _ i _ => l.length - (intOf i).toNat)
  case atStart => exact ⟨0, rfl, rfl, rfl, rfl, Nat.zero_le _, Lib.hid (Below.refl _ _)⟩
  case round =>
    obtain ⟨k, rfl, rfl, rfl, rfl, hk, HW⟩ := hrel
    by_cases hlt : k < l.length
    · have hkI : (k : Int) < (l.length : Int) := by omega
      obtain ⟨x, hx⟩ : ∃ x, x = l[k] := ⟨_, rfl⟩
      have hxk : l[k]? = some x := by rw [hx]; exact List.getElem?_eq_getElem hlt
      have hsx := HS.out x (List.mem_of_getElem? hxk)
      obtain ⟨b, off, rfl, hbl, z0, z1, z2, z3⟩ := mt_at (HH.out.below HW.out (Nat.le_refl _)) hxk
      have s1 := sumX_step (oneX A B) hlt
      have s2 := sumX_step (twoX A B) hlt
      have s3 := sumX_step (cntX A B) hlt
      rw [← hx] at s1 s2 s3
      have hbd := x_bd (HS.out.take k) A B
      have htl : (l.take k).length ≤ 150 := by rw [List.length_take]; omega
      obtain ⟨O0, hO0⟩ : ∃ v, v = sumX (oneX A B) (l.take k) := ⟨_, rfl⟩
      obtain ⟨T0, hT0⟩ : ∃ v, v = sumX (twoX A B) (l.take k) := ⟨_, rfl⟩
      obtain ⟨N0, hN0⟩ : ∃ v, v = sumX (cntX A B) (l.take k) := ⟨_, rfl⟩
      rw [← hO0] at s1 hbd
      rw [← hT0] at s2 hbd
      rw [← hN0] at s3 hbd
      rw [← hO0, ← hT0, ← hN0]
      have HS1 := Lib.hid s1
      have HS2 := Lib.hid s2
      have HS3 := Lib.hid s3
      have hb2 : (0 ≤ O0 ∧ O0 ≤ 300) ∧ (0 ≤ T0 ∧ T0 ≤ 300) ∧ (0 ≤ N0 ∧ N0 ≤ 150) := by omega
      clear hbd htl s1 s2 s3 hO0 hT0 hN0 hx hxk
      obtain ⟨xa, xb, xs, xf⟩ := x
      dsimp only at z0 z1 z2 z3 hsx
      have HWX : Hid (Below w.heap.size w (wr.alloc (.cells #[.int .i64 xa, .int .i64 xb, .int .i64 xs, .bool xf] 45))) := below_next HW.out (below_alloc1 _ _)
      have hw9 : IntKind.i64.wrap ((k : Int) + 1) = (k : Int) + 1 := IntWalk.i64_in _ (by omega)
      have hw8 : IntKind.i64.wrap (N0 + 1) = N0 + 1 := IntWalk.i64_in _ (by omega)
      clear HW
      by_cases c1 : xa = A ∧ xb = B
      · obtain ⟨rfl, rfl⟩ := c1
        have e1 : Hid (oneX xa xb ⟨xa, xb, xs, xf⟩ = xs ∧ twoX xa xb ⟨xa, xb, xs, xf⟩ = 2 - xs ∧ cntX xa xb ⟨xa, xb, xs, xf⟩ = 1) := by unfold Hid oneX twoX cntX; simp
        have hw1 : IntKind.i64.wrap (O0 + xs) = O0 + xs := IntWalk.i64_in _ (by omega)
        have hw2 : IntKind.i64.wrap (T0 + 2) = T0 + 2 := IntWalk.i64_in _ (by omega)
        have hw3 : IntKind.i64.wrap (T0 + 2 - xs) = T0 + 2 - xs := IntWalk.i64_in _ (by omega)
        go_wp2_with fail
        go_region
        go_wp2
        go_roundw
        case rel => exact ⟨k + 1, by go_num, by rw [HS1.out, e1.out.1], by rw [HS2.out, e1.out.2.1]; congr 1; omega, by rw [HS3.out, e1.out.2.2], by omega, Lib.hid (below_next HWX.out (Below.refl _ _).drew)⟩
        case measure => simp [intOf]; omega
      · by_cases c2 : xa = B ∧ xb = A
        · obtain ⟨rfl, rfl⟩ := c2
          have hne : ¬ xa = xb := fun e => c1 ⟨e, e.symm⟩
          have q1 : (xa == xb) = false := by simpa using hne
          have e1 : Hid (oneX xb xa ⟨xa, xb, xs, xf⟩ = 2 - xs ∧ twoX xb xa ⟨xa, xb, xs, xf⟩ = xs ∧ cntX xb xa ⟨xa, xb, xs, xf⟩ = 1) := by unfold Hid oneX twoX cntX; simp [hne]
          have hw1 : IntKind.i64.wrap (O0 + 2) = O0 + 2 := IntWalk.i64_in _ (by omega)
          have hw2 : IntKind.i64.wrap (O0 + 2 - xs) = O0 + 2 - xs := IntWalk.i64_in _ (by omega)
          have hw3 : IntKind.i64.wrap (T0 + xs) = T0 + xs := IntWalk.i64_in _ (by omega)
          clear c1 hne
          go_wp2_with fail
          go_region
          go_wp2
          go_roundw
          case rel => exact ⟨k + 1, by go_num, by rw [HS1.out, e1.out.1]; congr 1; omega, by rw [HS2.out, e1.out.2.1], by rw [HS3.out, e1.out.2.2], by omega, Lib.hid (below_next HWX.out (Below.refl _ _).drew)⟩
          case measure => simp [intOf]; omega
        · have e1 : Hid (oneX A B ⟨xa, xb, xs, xf⟩ = 0 ∧ twoX A B ⟨xa, xb, xs, xf⟩ = 0 ∧ cntX A B ⟨xa, xb, xs, xf⟩ = 0) := by unfold Hid oneX twoX cntX; simp [c1, c2]
          have p1 : (xa == A) = false ∨ ((xa == A) = true ∧ (xb == B) = false) := by
            by_cases e : xa = A
            · right; exact ⟨by simpa using e, by simpa using fun e2 => c1 ⟨e, e2⟩⟩
            · left; simpa using e
          have p2 : (xa == B) = false ∨ ((xa == B) = true ∧ (xb == A) = false) := by
            by_cases e : xa = B
            · right; exact ⟨by simpa using e, by simpa using fun e2 => c2 ⟨e, e2⟩⟩
            · left; simpa using e
          clear c1 c2
          rcases p1 with q1 | ⟨q1, q2⟩
          all_goals rcases p2 with q3 | ⟨q3, q4⟩
          all_goals
            go_wp2
            go_roundw
            case rel => exact ⟨k + 1, by go_num, by rw [HS1.out, e1.out.1, Int.add_zero], by rw [HS2.out, e1.out.2.1, Int.add_zero], by rw [HS3.out, e1.out.2.2, Int.add_zero], by omega, HWX⟩
            case measure => simp [intOf]; omega
    · have hkl : k = l.length := by omega
      subst hkl
      rw [List.take_length]
      have hkI : ¬ (l.length : Int) < (l.length : Int) := by omega
      go_wp2
      go_ret3
      exact ⟨rfl, HW.out⟩

set_option maxRecDepth 100000 in
set_option maxHeartbeats 8000000 in
theorem DirectScore_c (n : Int) (l : List Mt) (a : Option Addr) (c : Nat) (A B : Int) (w : World) (h : Row w a (flat mtRL.f l)) (hv : mtsOk n l = true) (hA : 0 ≤ A ∧ A < n) (hB : 0 ≤ B ∧ B < n) (hAB : ¬ A = B) :
    Calls Tryd.prog 32 #[.int .i64 n, .slice a l.length c, .int .i64 A, .int .i64 B] w fun e w' => e = .returned (.tuple #[.int .i64 (sumX (oneX A B) l), .int .i64 (sumX (twoX A B) l), .int .i64 0]) ∧ Below w.heap.size w w' := by
  have HH := Lib.hid h
  obtain ⟨hn, hl, hok⟩ := mtsOk_parts hv
  have hs : Sc l := fun m hm => (Mt.ok_parts (hok m hm)).2.2.2
  have HS := Lib.hid hs
  have HV := Lib.hid (l26Ok_c n l a c w h (by omega))
  rw [hv] at HV
  have H1 := Lib.hid (l00In_c A 0 (n - 1))
  have H2 := Lib.hid (l00In_c B 0 (n - 1))
  rw [show inB A 0 (n - 1) = true from inB_iff.2 (by omega)] at H1
  rw [show inB B 0 (n - 1) = true from inB_iff.2 (by omega)] at H2
  have hw0 : IntKind.i64.wrap (n - 1) = n - 1 := IntWalk.i64_in _ (by omega)
  have hABq : (A == B) = false := by simpa using hAB
  clear h hs hok hv hA hB
  go_enter Tryd.func32, Tryd.ntmps32
  go_wp2_with fail
  refine HV.out.mono ?_
  rintro e w1 ⟨rfl, m, hw1⟩
  have HW1 : Hid (Below w.heap.size w w1) := by rw [hw1]; exact below_draws _ _ _
  clear hw1 HV
  go_wp2_with fail
  refine (H1.out _).mono ?_
  rintro e w2 ⟨rfl, rfl⟩
  go_wp2_with fail
  refine (H2.out _).mono ?_
  rintro e w2 ⟨rfl, rfl⟩
  clear H1 H2 hw0
  go_wp2_with fail
  go_loopw [11, 12, 13] (fun o t i wr => ∃ (k : Nat), i = .int .i64 (k : Int) ∧ o = .int .i64 (sumX (oneX A B) (l.take k)) ∧ t = .int .i64 (sumX (twoX A B) (l.take k)) ∧ k ≤ l.length ∧ Hid (Below w.heap.size w wr)) (fun _ _ i _ => l.length - (intOf i).toNat)
  case atStart => exact ⟨0, rfl, rfl, rfl, Nat.zero_le _, HW1⟩
  case round =>
    clear HW1
    obtain ⟨k, rfl, rfl, rfl, hk, HW⟩ := hrel
    by_cases hlt : k < l.length
    · have hkI : (k : Int) < (l.length : Int) := by omega
      obtain ⟨x, hx⟩ : ∃ x, x = l[k] := ⟨_, rfl⟩
      have hxk : l[k]? = some x := by rw [hx]; exact List.getElem?_eq_getElem hlt
      have hsx := HS.out x (List.mem_of_getElem? hxk)
      obtain ⟨b, off, rfl, hbl, z0, z1, z2, z3⟩ := mt_at (HH.out.below HW.out (Nat.le_refl _)) hxk
      have s1 := sumX_step (oneX A B) hlt
      have s2 := sumX_step (twoX A B) hlt
      rw [← hx] at s1 s2
      have hbd := x_bd (HS.out.take k) A B
      have htl : (l.take k).length ≤ 150 := by rw [List.length_take]; omega
      obtain ⟨O0, hO0⟩ : ∃ v, v = sumX (oneX A B) (l.take k) := ⟨_, rfl⟩
      obtain ⟨T0, hT0⟩ : ∃ v, v = sumX (twoX A B) (l.take k) := ⟨_, rfl⟩
      rw [← hO0] at s1 hbd
      rw [← hT0] at s2 hbd
      rw [← hO0, ← hT0]
      have HS1 := Lib.hid s1
      have HS2 := Lib.hid s2
      have hb2 : (0 ≤ O0 ∧ O0 ≤ 300) ∧ (0 ≤ T0 ∧ T0 ≤ 300) := by omega
      clear hbd htl s1 s2 hO0 hT0 hx hxk
      obtain ⟨xa, xb, xs, xf⟩ := x
      dsimp only at z0 z1 z2 z3 hsx
      have hw9 : IntKind.i64.wrap ((k : Int) + 1) = (k : Int) + 1 := IntWalk.i64_in _ (by omega)
      have hw2 : IntKind.i64.wrap (2 - xs) = 2 - xs := IntWalk.i64_in _ (by omega)
      have hw3 : IntKind.i64.wrap (O0 + xs) = O0 + xs := IntWalk.i64_in _ (by omega)
      have hw4 : IntKind.i64.wrap (T0 + xs) = T0 + xs := IntWalk.i64_in _ (by omega)
      have hw5 : IntKind.i64.wrap (O0 + (2 - xs)) = O0 + (2 - xs) := IntWalk.i64_in _ (by omega)
      have hw6 : IntKind.i64.wrap (T0 + (2 - xs)) = T0 + (2 - xs) := IntWalk.i64_in _ (by omega)
      by_cases c1 : xa = A ∧ xb = B
      · obtain ⟨rfl, rfl⟩ := c1
        have e1 : Hid (oneX xa xb ⟨xa, xb, xs, xf⟩ = xs ∧ twoX xa xb ⟨xa, xb, xs, xf⟩ = 2 - xs) := by unfold Hid oneX twoX; simp
        go_wp2
        go_roundw
        case rel => exact ⟨k + 1, by go_num, by rw [HS1.out, e1.out.1], by rw [HS2.out, e1.out.2], by omega, HW⟩
        case measure => simp [intOf]; omega
      · by_cases c2 : xa = B ∧ xb = A
        · obtain ⟨rfl, rfl⟩ := c2
          have hne : ¬ xa = xb := fun e => c1 ⟨e, e.symm⟩
          have q1 : (xa == xb) = false := by simpa using hne
          have e1 : Hid (oneX xb xa ⟨xa, xb, xs, xf⟩ = 2 - xs ∧ twoX xb xa ⟨xa, xb, xs, xf⟩ = xs) := by unfold Hid oneX twoX; simp [hne]
          clear c1 hne
          go_wp2
          go_roundw
          case rel => exact ⟨k + 1, by go_num, by rw [HS1.out, e1.out.1], by rw [HS2.out, e1.out.2], by omega, HW⟩
          case measure => simp [intOf]; omega
        · have e1 : Hid (oneX A B ⟨xa, xb, xs, xf⟩ = 0 ∧ twoX A B ⟨xa, xb, xs, xf⟩ = 0) := by unfold Hid oneX twoX; simp [c1, c2]
          have p1 : (xa == A) = false ∨ ((xa == A) = true ∧ (xb == B) = false) := by
            by_cases e : xa = A
            · right; exact ⟨by simpa using e, by simpa using fun e2 => c1 ⟨e, e2⟩⟩
            · left; simpa using e
          have p2 : (xa == B) = false ∨ ((xa == B) = true ∧ (xb == A) = false) := by
            by_cases e : xa = B
            · right; exact ⟨by simpa using e, by simpa using fun e2 => c2 ⟨e, e2⟩⟩
            · left; simpa using e
          clear c1 c2
          rcases p1 with q1 | ⟨q1, q2⟩
          all_goals rcases p2 with q3 | ⟨q3, q4⟩
          all_goals
            go_wp2
            go_roundw
            case rel => exact ⟨k + 1, by go_num, by rw [HS1.out, e1.out.1, Int.add_zero], by rw [HS2.out, e1.out.2, Int.add_zero], by omega, HW⟩
            case measure => simp [intOf]; omega
    · have hkl : k = l.length := by omega
      subst hkl
      rw [List.take_length]
      have hkI : ¬ (l.length : Int) < (l.length : Int) := by omega
      go_wp2
      go_ret3
      exact ⟨rfl, HW.out⟩

end Go.Proofs.YtbjgigdkbjabaaaDoor
