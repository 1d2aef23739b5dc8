/- The law FnTables returns true for every argument, and every argument reads afterwards as before. No conditions. -/
import Derived.Test.YtbjgigdkbjabaaaTab19
namespace Go.Proofs.Ytbjgigdkbjabaaa.lTables
set_option linter.unusedSimpArgs false
set_option linter.unusedVariables false
set_option linter.unnecessarySimpa false
open Go.RowKit Go.ChangeShapes Go.WideShapes Go.ChangeAt Go.Joins
open Go.ChangeMaps (open_string)

theorem rowsR_len (n : Int) (l : List Mt) : (rowsR n l).length ≤ 12 := by
  unfold rowsR
  cases hv : mtsOk n l with
  | false => simp
  | true =>
    obtain ⟨⟨hn1, hn2⟩, _, _⟩ := mtsOk_parts hv
    rw [if_pos rfl, rowsP_len]
    omega
theorem ranksR_len (n : Int) (l : List Mt) : (ranksR n l).length ≤ 12 := by
  unfold ranksR
  cases hv : mtsOk n l with
  | false => simp
  | true =>
    obtain ⟨⟨hn1, hn2⟩, _, _⟩ := mtsOk_parts hv
    rw [if_pos rfl, ranksP, List.length_map, rowsP_len]
    omega
set_option maxRecDepth 100000 in
set_option maxHeartbeats 32000000 in
theorem walk (ca : Option Addr) (cc : Nat) (bs : List Int) (w : World) (hm1 : bs.length ≤ maxLen) (hb : bs.length ≤ 4096 → ByteP w.heap.size ca bs w) :
    Calls Try.prog 9 #[.slice ca bs.length cc] w fun e w' => e = .returned (.bool true) ∧ Below w.heap.size w w' := by
  by_cases hl : 4096 < (bs.length : Int)
  · have HL : decide (4096 < (bs.length : Int)) = true := by simpa using hl
    clear hb hl
    go_enter Try.func9, Try.ntmps9
    go_wp2_with fail
    refine (f6big_c ca _ cc _ hm1).mono ?_
    rintro e w1 ⟨rfl, rfl⟩
    rw [HL]
    go_wp2
    go_ret
    exact ⟨rfl, Below.refl _ _⟩
  have HB := Lib.hid (hb (by omega))
  have HL : decide (4096 < (bs.length : Int)) = false := by simp; omega
  clear hb hl
  go_enter Try.func9, Try.ntmps9
  go_wp2_with fail
  refine (f6big_c ca _ cc _ hm1).mono ?_
  rintro e w1 ⟨rfl, rfl⟩
  rw [HL]
  clear hm1 HL
  go_wp2_with fail
  refine (DrawTableOf_c ca cc bs _ HB.out).mono ?_
  rintro e w1 ⟨n, la, lc, l, rfl, hl3, hp1, hb1⟩
  have F1 := ((Fr.start w).step hb1).pcs hp1
  have HL3 := Lib.hid hl3
  clear hp1 hb1 hl3
  obtain ⟨T, hT⟩ : ∃ T, T = tableP n l := ⟨_, rfl⟩
  obtain ⟨R, hR⟩ : ∃ R, R = rowsR n l := ⟨_, rfl⟩
  obtain ⟨K, hK⟩ : ∃ K, K = ranksR n l := ⟨_, rfl⟩
  obtain ⟨kc, hkc⟩ : ∃ k, k = tableK n l := ⟨_, rfl⟩
  have HTL : Hid (T.length ≤ 12) := by rw [hT]; exact tableP_len n l
  have HRL : Hid (R.length ≤ 12) := by rw [hR]; exact rowsR_len n l
  have HKL : Hid (K.length ≤ 12) := by rw [hK]; exact ranksR_len n l
  have HCT : Hid (∀ (a : Option Addr) (c : Nat) (W : World), Row W a (flat mtRL.f l) → Calls Try.prog 39 #[.int .i64 n, .slice a l.length c] W (RwResC W T kc)) := fun a c W h => by rw [hT, hkc]; exact iTableOf_c n l a c W h (by have := HL3.out; omega)
  have HCM : Hid (∀ (a : Option Addr) (c : Nat) (W : World), Row W a (flat mtRL.f l) → Calls Try.prog 37 #[.int .i64 n, .slice a l.length c] W (RwResC W T kc)) := fun a c W h => by rw [hT, hkc]; exact sTableOf_c n l a c W h (by have := HL3.out; omega)
  have HCR : Hid (∀ (a : Option Addr) (c : Nat) (W : World), Row W a (flat mtRL.f l) → Calls Try.prog 47 #[.int .i64 n, .slice a l.length c] W (RwResC W R kc)) := fun a c W h => by rw [hR, hkc]; exact iRowsOf_c n l a c W h (by have := HL3.out; omega)
  have HCS : Hid (∀ (a : Option Addr) (c : Nat) (W : World), Row W a (flat mtRL.f l) → Calls Try.prog 48 #[.int .i64 n, .slice a l.length c] W (RwResC W R kc)) := fun a c W h => by rw [hR, hkc]; exact sRowsOf_c n l a c W h (by have := HL3.out; omega)
  have HCK : Hid (∀ (a : Option Addr) (c : Nat) (W : World), Row W a (flat mtRL.f l) → Calls Try.prog 49 #[.int .i64 n, .slice a l.length c] W (RkRes W K kc)) := fun a c W h => by rw [hK, hkc]; exact iRanksOf_c n l a c W h (by have := HL3.out; omega)
  have HCP : Hid (∀ (a : Option Addr) (c : Nat) (W : World), Row W a (flat mtRL.f l) → Calls Try.prog 50 #[.int .i64 n, .slice a l.length c] W (RkRes W K kc)) := fun a c W h => by rw [hK, hkc]; exact sRanksOf_c n l a c W h (by have := HL3.out; omega)
  have HDF := Lib.hid (And.intro hT (And.intro hR (And.intro hK hkc)))
  clear hT hR hK hkc
  go_wp2_with fail
  refine (HCT.out la lc _ (mt_row (F1.at 0 rfl))).mono ?_
  rintro e w2 ⟨ta, tc, rfl, hp2, hb2⟩
  have F2 := (F1.step hb2).pcs hp2
  clear hp2 hb2 F1
  go_wp2_with fail
  refine (HCM.out la lc _ (mt_row (F2.at 1 rfl))).mono ?_
  rintro e w3 ⟨ma, mc, rfl, hp3, hb3⟩
  have F3 := (F2.step hb3).pcs hp3
  clear hp3 hb3 F2
  go_wp2_with fail
  refine (HCR.out la lc _ (mt_row (F3.at 2 rfl))).mono ?_
  rintro e w4 ⟨ra, rc, rfl, hp4, hb4⟩
  have F4 := (F3.step hb4).pcs hp4
  clear hp4 hb4 F3
  go_wp2_with fail
  refine (HCS.out la lc _ (mt_row (F4.at 3 rfl))).mono ?_
  rintro e w5 ⟨sa, sc, rfl, hp5, hb5⟩
  have F5 := (F4.step hb5).pcs hp5
  clear hp5 hb5 F4
  go_wp2_with fail
  refine (HCK.out la lc _ (mt_row (F5.at 4 rfl))).mono ?_
  rintro e w6 ⟨ka, kk, rfl, hp6, hb6⟩
  have F6 := (F5.step hb6).intsP hp6
  clear hp6 hb6 F5
  go_wp2_with fail
  refine (HCP.out la lc _ (mt_row (F6.at 5 rfl))).mono ?_
  rintro e w7 ⟨pa, pk, rfl, hp7, hb7⟩
  have F7 := (F6.step hb7).intsP hp7
  clear hp7 hb7 F6
  obtain ⟨bv, hbv⟩ : ∃ b, b = mtsOk n l := ⟨_, rfl⟩
  have HVM : Hid (∀ (a : Option Addr) (c : Nat) (W : World), Row W a (flat mtRL.f l) → Calls Try.prog 53 #[.int .i64 n, .slice a l.length c] W fun e w' => e = .returned (.bool bv) ∧ Below W.heap.size W w') := fun a c W h => by rw [hbv]; exact ValidMatches_c n l a c W h (by have := HL3.out; omega)
  have hkb : (kc == 0) = bv := by rw [HDF.out.2.2.2, hbv]; unfold tableK; cases mtsOk n l <;> rfl
  have hkk : (kc != kc) = false := by simp
  have HBV := Lib.hid hbv
  have hdk : decide (K = K) = true := by simp
  clear hbv
  go_wp2_with fail
  refine (f6rows_c T ta ma tc mc _ (rw_row (F7.at 5 rfl)) (rw_row (F7.at 4 rfl)) (by have := HTL.out; omega)).mono ?_
  rintro e w8 ⟨rfl, hb8⟩
  have F8 := F7.step hb8
  clear hb8 F7
  go_wp2_with fail
  refine (f6rows_c R ra sa rc sc _ (rw_row (F8.at 3 rfl)) (rw_row (F8.at 2 rfl)) (by have := HRL.out; omega)).mono ?_
  rintro e w9 ⟨rfl, hb9⟩
  have F9 := F8.step hb9
  clear hb9 F8
  go_wp2_with fail
  refine (f6ints_c ka pa kk pk K K _ (own_row (ints_own (F9.at 1 rfl))) (own_row (ints_own (F9.at 0 rfl))) (by have := HKL.out; unfold maxLen; omega) (by have := HKL.out; unfold maxLen; omega)).mono ?_
  rintro e w10 ⟨rfl, m10, hw10⟩
  have F10 := F9.step (w' := w10) (by rw [hw10]; exact below_draws _ _ _)
  clear hw10 F9
  go_wp2_with fail
  refine (HVM.out la lc _ (mt_row (F10.at 6 rfl))).mono ?_
  rintro e w11 ⟨rfl, hb11⟩
  have F11 := F10.step hb11
  clear hb11 F10 HCM HCR HCS HCK HCP HVM
  cases bv
  · have hk0 : ¬ kc = 0 := by simpa using hkb
    clear hkk hdk
    go_wp2
    go_ret
    exact ⟨rfl, F11.below⟩
  have hk0 : kc = 0 := by simpa using hkb
  subst hk0
  have hv := HBV.out.symm
  obtain ⟨⟨hn1, hn2⟩, hl150, hok⟩ := mtsOk_parts hv
  obtain ⟨N, rfl⟩ : ∃ N : Nat, n = (N : Int) := ⟨n.toNat, by omega⟩
  have hT : T = srtR (rowsP N l) := by rw [HDF.out.1]; unfold tableP; rw [hv]; rfl
  have hR : R = rowsP N l := by rw [HDF.out.2.1]; unfold rowsR; rw [hv]; rfl
  have hK : K = ranksP N l := by rw [HDF.out.2.2.1]; unfold ranksR; rw [hv]; rfl
  have hTl : T.length = N := by rw [hT, srt_len_all, rowsP_len]
  have hRl : R.length = N := by rw [hR, rowsP_len]
  have hKl : K.length = N := by rw [hK, ranksP, List.length_map, rowsP_len]
  obtain ⟨gr, hgr, _, _⟩ := RL.at (F11.at 3 rfl) (by omega)
  obtain ⟨gt, hgt, _, _⟩ := RL.at (F11.at 5 rfl) (by omega)
  obtain ⟨gk, hgk, _, _⟩ := own_lt_n (ints_own (F11.at 1 rfl)) (by omega)
  subst hgr hgt hgk
  have HN := Lib.hid (And.intro hn1 hn2)
  have HOK := Lib.hid (And.intro hl150 hok)
  have HV := Lib.hid hv
  have HEQ := Lib.hid (And.intro hT (And.intro hR hK))
  have HLEN := Lib.hid (And.intro hTl (And.intro hRl hKl))
  have HRX : Hid (∀ (k : Nat) (W : World), k < N → Below w11.heap.size w11 W → ∃ y, y = rowOf l l l l (k : Int) ∧ (W.cell? ⟨gr, k * 6, none⟩ = some (.int .i64 y.player) ∧ W.cell? ⟨gr, k * 6 + 1, none⟩ = some (.int .i64 y.points) ∧ W.cell? ⟨gr, k * 6 + 2, none⟩ = some (.int .i64 y.wins) ∧ W.cell? ⟨gr, k * 6 + 3, none⟩ = some (.int .i64 y.games) ∧ W.cell? ⟨gr, k * 6 + 4, none⟩ = some (.int .i64 y.against) ∧ W.cell? ⟨gr, k * 6 + 5, none⟩ = some (.int .i64 y.strength))) := fun k W hk hW =>
    ⟨_, rfl, rw_cells ((F11.step hW).at 3 rfl) (by rw [hR]; exact rowsAt_get hk)⟩
  have HTX : Hid (∀ (k : Nat) (W : World) (x : Rw), T[k]? = some x → Below w11.heap.size w11 W → (W.cell? ⟨gt, k * 6, none⟩ = some (.int .i64 x.player))) := fun k W x hx hW => (rw_cells ((F11.step hW).at 5 rfl) hx).1
  have HKX : Hid (∀ (k : Nat) (W : World) (x : Rw), R[k]? = some x → Below w11.heap.size w11 W → W.cell? ⟨gk, k, none⟩ = some (.int .i64 (rankR R x))) := fun k W x hx hW => by
    have h1 : (K.map (Value.int .i64))[k]? = some (.int .i64 (rankR R x)) := by
      rw [hK, ranksP, List.getElem?_map, List.getElem?_map, ← hR, hx]; rfl
    have h2 := (ints_own ((F11.step hW).at 1 rfl)).cells (g := gk) rfl k _ h1
    rwa [addr_addT, Nat.zero_add] at h2
  have HLX : Hid (∀ (W : World), Below w11.heap.size w11 W → Row W la (flat mtRL.f l)) := fun W hW => mt_row ((F11.step hW).at 6 rfl)
  have HTR : Hid (∀ (W : World), Below w11.heap.size w11 W → Row W (some ⟨gt, 0, none⟩) (flat rwRL.f T)) := fun W hW => rw_row ((F11.step hW).at 5 rfl)
  have HFB : Hid (Below w.heap.size w w11) := F11.below
  have hlN : R.length = N := hRl
  clear hT hR hK hTl hKl hn1 hn2 hl150 hok hv hRl F11 HBV HDF hkb hkk hdk HTL HRL HKL
  obtain ⟨fP, hfP⟩ : ∃ f : Nat → Int, f = fun (i : Nat) => (rowOf l l l l (i : Int)).points := ⟨_, rfl⟩
  obtain ⟨fA, hfA⟩ : ∃ f : Nat → Int, f = fun (i : Nat) => (rowOf l l l l (i : Int)).against - (rowOf l l l l (i : Int)).games * (rowOf l l l l (i : Int)).points := ⟨_, rfl⟩
  have HFP := Lib.hid hfP
  have HFA := Lib.hid hfA
  have HBDR : Hid (∀ z, (0 ≤ (rowOf l l l l z).points ∧ (rowOf l l l l z).points ≤ 300) ∧ (0 ≤ (rowOf l l l l z).wins ∧ (rowOf l l l l z).wins ≤ 150) ∧ (0 ≤ (rowOf l l l l z).games ∧ (rowOf l l l l z).games ≤ 150) ∧ (0 ≤ (rowOf l l l l z).against ∧ (rowOf l l l l z).against ≤ 45000) ∧ (0 ≤ (rowOf l l l l z).strength ∧ (rowOf l l l l z).strength ≤ 90000)) := fun z => row_bd HOK.out.2 HOK.out.2 HOK.out.2 HOK.out.2 HOK.out.1 HOK.out.1 HOK.out.1 HOK.out.1 z
  have hgp : ∀ z, 0 ≤ (rowOf l l l l z).games * (rowOf l l l l z).points ∧ (rowOf l l l l z).games * (rowOf l l l l z).points ≤ 45000 := fun z => by
    obtain ⟨h1, _, h3, _⟩ := HBDR.out z
    refine ⟨Int.mul_nonneg h3.1 h1.1, ?_⟩
    have : (rowOf l l l l z).games * (rowOf l l l l z).points ≤ 150 * 300 := Int.mul_le_mul h3.2 h1.2 h1.1 (by omega)
    omega
  have HGP := Lib.hid hgp
  have HBP : Hid (∀ k, k ≤ 12 → -3600 ≤ sumN fP k ∧ sumN fP k ≤ 3600) := fun k hk => by
    have := sumN_bd (f := fP) (C := 300) (by omega) (k := k) (fun i _ => by rw [hfP]; have := (HBDR.out (i : Int)).1; simp only; omega)
    omega
  have HBA : Hid (∀ k, k ≤ 12 → -1080000 ≤ sumN fA k ∧ sumN fA k ≤ 1080000) := fun k hk => by
    have := sumN_bd (f := fA) (C := 90000) (by omega) (k := k) (fun i _ => by rw [hfA]; have h1 := (HBDR.out (i : Int)).2.2.2.1; have h2 := HGP.out (i : Int); simp only; omega)
    omega
  clear hfP hfA hgp
  have HZ0 : Hid (sumN fP 0 = 0 ∧ sumN fA 0 = 0) := ⟨rfl, rfl⟩
  go_wp2_with fail
  go_loopw [17, 18, 19] (fun p a i wr => ∃ (k : Nat), i = .int .i64 (k : Int) ∧ p = .int .i64 (sumN fP k) ∧ a = .int .i64 (sumN fA k) ∧ k ≤ N ∧ Hid (Below w11.heap.size w11 wr)) (fun _ _ i _ => N - (intOf i).toNat)
  case atStart => exact ⟨0, rfl, rfl, rfl, Nat.zero_le _, Lib.hid (Below.refl _ _)⟩
  case round =>
    clear HZ0
    obtain ⟨k, rfl, rfl, rfl, hk, HW⟩ := hrel
    by_cases hlt : k < N
    · have hkI : (k : Int) < (R.length : Int) := by omega
      obtain ⟨y, hy, y0, y1, y2, y3, y4, y5⟩ := HRX.out k wr hlt HW.out
      have hB2 := HN.out
      have b1 := HBP.out k (by omega)
      have b2 := HBA.out k (by omega)
      have b3 := HBDR.out (k : Int)
      have b4 := HGP.out (k : Int)
      rw [← hy] at b3 b4
      have s1 : sumN fP (k + 1) = sumN fP k + y.points := by simp only [sumN]; rw [HFP.out, hy]
      have s2 : sumN fA (k + 1) = sumN fA k + (y.against - y.games * y.points) := by simp only [sumN]; rw [HFA.out, hy]
      obtain ⟨P0, hP0⟩ : ∃ P, P = sumN fP k := ⟨_, rfl⟩
      obtain ⟨A0, hA0⟩ : ∃ P, P = sumN fA k := ⟨_, rfl⟩
      obtain ⟨P1, hP1⟩ : ∃ P, P = sumN fP (k + 1) := ⟨_, rfl⟩
      obtain ⟨A1, hA1⟩ : ∃ P, P = sumN fA (k + 1) := ⟨_, rfl⟩
      obtain ⟨G, hG⟩ : ∃ G, G = y.games * y.points := ⟨_, rfl⟩
      rw [← hP0] at s1 b1
      rw [← hA0] at s2 b2
      rw [← hP1] at s1
      rw [← hA1] at s2
      rw [← hG] at s2 b4
      rw [← hP0, ← hA0]
      have hw1 : IntKind.i64.wrap (P0 + y.points) = P1 := by rw [s1]; exact IntWalk.i64_in _ (by omega)
      have hw2 : IntKind.i64.wrap (A0 + y.against) = A0 + y.against := IntWalk.i64_in _ (by omega)
      have hw3 : IntKind.i64.wrap (y.games * y.points) = G := by rw [← hG]; exact IntWalk.i64_in _ (by omega)
      have hw4 : IntKind.i64.wrap (A0 + y.against - G) = A1 := by rw [s2, IntWalk.i64_in _ (by omega)]; omega
      have hw5 : IntKind.i64.wrap ((k : Int) + 1) = (k : Int) + 1 := IntWalk.i64_in _ (by omega)
      have HP1 := Lib.hid hP1
      have HA1 := Lib.hid hA1
      have HW2 : Hid (Below w11.heap.size w11 wr.drew) := below_next HW.out (Below.refl _ _).drew
      clear hy s1 s2 hP0 hA0 hP1 hA1 hG b1 b2 b3 b4 hB2 HW
      go_wp2_with fail
      go_region
      go_wp2
      go_roundw
      case rel => exact ⟨k + 1, by go_num, by rw [HP1.out], by rw [HA1.out], by omega, HW2⟩
      case measure => simp [intOf]; omega
    · have hkI : ¬ (k : Int) < (R.length : Int) := by omega
      have hkN : N = k := by omega
      subst hkN
      have hsp : sumN fP N = 2 * (l.length : Int) := by rw [HFP.out]; exact points_sum HOK.out.2
      have hsa : sumN fA N = 0 := by rw [HFA.out]; exact against_sum HOK.out.2
      rw [hsp, hsa]
      have HL1 : Hid (l.length ≤ 150) := HOK.out.1
      have hwl1 : IntKind.i64.wrap ((l.length : Int) - 1) = (l.length : Int) - 1 := IntWalk.i64_in _ (by have := HL1.out; omega)
      obtain ⟨wq, hwq⟩ : ∃ W, W = wr := ⟨_, rfl⟩
      subst hwq
      have HWQ := HW
      have HB0 : Hid (Below wq.heap.size wq (wq.alloc (.cells #[] 86))) := below_alloc1 _ _
      have HO0 : Hid ((wq.alloc (.cells #[] 86)).ownsRow wq.heap.size 86 4 (.slice (some ⟨wq.heap.size, 0, none⟩) 0 0) 0 (flat mtRL.f ((turnM l).take 0))) := World.ownsRow_lit (base := wq.heap.size) (e := 86) (size := 4) wq #[] 0 (Nat.le_refl _) (Nat.zero_le _) rfl
      obtain ⟨i0, hi, hz0, hz1, hz2⟩ := info_partsMt infoMt
      clear hsp hsa HW HBP HBA HGP HBDR HFP HFA hlt hk
      go_upto_region 23 with fail
      go_loopw [20, 21] (fun s i wr => ∃ (j g c : Nat), s = .slice (some ⟨g, 0, none⟩) j c ∧ i = .int .i64 ((l.length : Int) - 1 - (j : Int)) ∧ j ≤ l.length ∧ Hid (wr.ownsRow wq.heap.size 86 4 (.slice (some ⟨g, 0, none⟩) j c) j (flat mtRL.f ((turnM l).take j))) ∧ Hid (Below wq.heap.size wq wr)) (fun _ i _ => (intOf i + 1).toNat)
      case atStart => exact ⟨0, _, _, rfl, by simp, Nat.zero_le _, HO0, HB0⟩
      case round =>
        clear HO0 HB0
        obtain ⟨j, g, c, rfl, rfl, hj, HO, HB⟩ := hrel
        by_cases hlt : j < l.length
        · obtain ⟨q, hq⟩ : ∃ q : Nat, (l.length : Int) - 1 - (j : Int) = (q : Int) := ⟨l.length - 1 - j, by omega⟩
          have hql : q < l.length := by omega
          have hqI : (q : Int) < (l.length : Int) := by omega
          obtain ⟨x, hx⟩ : ∃ x, x = l[q] := ⟨_, rfl⟩
          have hxq : l[q]? = some x := by rw [hx]; exact List.getElem?_eq_getElem hql
          have HBD : Hid (Below wq.heap.size wq wr.drew) := below_next HB.out (Below.refl _ _).drew
          have HOD : Hid (wr.drew.ownsRow wq.heap.size 86 4 (.slice (some ⟨g, 0, none⟩) j c) j (flat mtRL.f ((turnM l).take j))) := own_below HO.out (Below.refl _ _).drew (Nat.le_refl _)
          obtain ⟨b, off, hla, hbl, z0, z1, z2, z3⟩ := mt_at (HLX.out _ (HWQ.out.trans (HBD.out.mono HWQ.out.size))) hxq
          obtain ⟨b', off', hla', hblq, _⟩ := mt_at (HLX.out _ HWQ.out) hxq
          have hbe : b = b' ∧ off = off' := by rw [hla] at hla'; simp at hla'; omega
          obtain ⟨rfl, rfl⟩ := hbe
          clear hla'
          have hxm : x ∈ l := List.mem_of_getElem? hxq
          obtain ⟨_, _, _, h4⟩ := Mt.ok_parts (HOK.out.2 x hxm)
          obtain ⟨s2, hs2⟩ : ∃ s, s = 2 - x.score := ⟨_, rfl⟩
          have hws : IntKind.i64.wrap (2 - x.score) = s2 := by rw [hs2]; exact IntWalk.i64_in _ (by omega)
          have HTS : Hid ((turnM l).take (j + 1) = (turnM l).take j ++ [⟨x.b, x.a, s2, x.forfeit⟩]) := by
            unfold Hid
            rw [turnM_step hlt, hs2, hx]
            have e : l.length - 1 - j = q := by omega
            simp only [e]
            rfl
          have HKC : Hid (∀ V, Below wr.drew.heap.size wr.drew V → V.cell? ⟨b, off + q * 4, none⟩ = some (.int .i64 x.a) ∧ V.cell? ⟨b, off + q * 4 + 1, none⟩ = some (.int .i64 x.b) ∧ V.cell? ⟨b, off + q * 4 + 2, none⟩ = some (.int .i64 x.score) ∧ V.cell? ⟨b, off + q * 4 + 3, none⟩ = some (.bool x.forfeit)) := fun V hV => ⟨(hV.cell (show (Addr.mk b (off + q * 4) none).block < _ from hbl)).trans z0, (hV.cell (show (Addr.mk b (off + q * 4 + 1) none).block < _ from hbl)).trans z1, (hV.cell (show (Addr.mk b (off + q * 4 + 2) none).block < _ from hbl)).trans z2, (hV.cell (show (Addr.mk b (off + q * 4 + 3) none).block < _ from hbl)).trans z3⟩
          have HSS := Lib.hid (And.intro z0 (And.intro z1 (And.intro z2 z3)))
          rw [hq]
          have HQ := Lib.hid hq
          have hlaE := Lib.hid hla
          subst hla
          have hq0 : (0 : Int) ≤ (q : Int) := by omega
          have HBLO : Hid (b < wr.drew.heap.size ∧ b < wq.heap.size) := ⟨hbl, hblq⟩
          clear hbl hblq
          clear hx hxq hxm h4 hs2 z0 z1 z2 z3 HO HB hq
          go_wp2_with fail
          refine heldH (S := fun V => V.cell? ⟨b, off + q * 4, none⟩ = some (.int .i64 x.a) ∧ V.cell? ⟨b, off + q * 4 + 1, none⟩ = some (.int .i64 x.b) ∧ V.cell? ⟨b, off + q * 4 + 2, none⟩ = some (.int .i64 x.score) ∧ V.cell? ⟨b, off + q * 4 + 3, none⟩ = some (.bool x.forfeit)) (n := 26) (listed := #[false, false, false, false, false, false, false, false, false, false, false, false, false, false, false, false, false, false, false, false, false, false, false, false, false, false]) (by kernel_rfl) (by rfl) (by rfl) ?_ (fun hHeld => ?_)
          (focus ((try dsimp only); (first | done | ((first | exact HSS5.out | exact HSS4.out | exact HSS.out); done))))
          (refine takeH (i := 0) (v := ?_) (by decide +kernel) (by decide +kernel) (by kernel_rfl) (by rfl) (by exact fun _ _ _ h => h) (by rfl) ?_ (by assumption) ?_); rotate_left; (focus (intro w hSw; (try dsimp only at hSw); go_simp; (try with_reducible rfl); done)); (try simp only [Act.put, List.setIfInBounds_toArray, List.set_cons_zero, List.set_cons_succ])
          (refine takeH (i := 1) (v := ?_) (by decide +kernel) (by decide +kernel) (by kernel_rfl) (by rfl) (by exact fun _ _ _ h => h) (by rfl) ?_ (by assumption) ?_); rotate_left; (focus (intro w hSw; (try dsimp only at hSw); go_simp; (try with_reducible rfl); done)); (try simp only [Act.put, List.setIfInBounds_toArray, List.set_cons_zero, List.set_cons_succ])
          (refine takeH (i := 2) (v := ?_) (by decide +kernel) (by decide +kernel) (by kernel_rfl) (by rfl) (by exact fun _ _ _ h => h) (by rfl) ?_ (by assumption) ?_); rotate_left; (focus (intro w hSw; (try dsimp only at hSw); go_simp; (try with_reducible rfl); done)); (try simp only [Act.put, List.setIfInBounds_toArray, List.set_cons_zero, List.set_cons_succ])
          (refine takeH (i := 3) (v := ?_) (by decide +kernel) (by decide +kernel) (by kernel_rfl) (by rfl) (by exact fun _ _ _ h => h) (by rfl) ?_ (by assumption) ?_); rotate_left; (focus (intro w hSw; (try dsimp only at hSw); go_simp; (try with_reducible rfl); done)); (try simp only [Act.put, List.setIfInBounds_toArray, List.set_cons_zero, List.set_cons_succ])
          (refine takeH (i := 4) (v := ?_) (by decide +kernel) (by decide +kernel) (by kernel_rfl) (by rfl) (by exact fun _ _ _ h => h) (by rfl) ?_ (by assumption) ?_); rotate_left; (focus (intro w hSw; (try dsimp only at hSw); go_simp; (try with_reducible rfl); done)); (try simp only [Act.put, List.setIfInBounds_toArray, List.set_cons_zero, List.set_cons_succ])
          (refine takeH (i := 5) (v := ?_) (by decide +kernel) (by decide +kernel) (by kernel_rfl) (by rfl) (by exact fun _ _ _ h => h) (by rfl) ?_ (by assumption) ?_); rotate_left; (focus (intro w hSw; (try dsimp only at hSw); go_simp; (try with_reducible rfl); done)); (try simp only [Act.put, List.setIfInBounds_toArray, List.set_cons_zero, List.set_cons_succ])
          (refine takeH (i := 6) (v := ?_) (by decide +kernel) (by decide +kernel) (by kernel_rfl) (by rfl) (by exact fun _ _ _ h => h) (by rfl) ?_ (by assumption) ?_); rotate_left; (focus (intro w hSw; (try dsimp only at hSw); go_simp; (try with_reducible rfl); done)); (try simp only [Act.put, List.setIfInBounds_toArray, List.set_cons_zero, List.set_cons_succ])
          (refine takeH (i := 7) (v := ?_) (by decide +kernel) (by decide +kernel) (by kernel_rfl) (by rfl) (by exact fun _ _ _ h => h) (by rfl) ?_ (by assumption) ?_); rotate_left; (focus (intro w hSw; (try dsimp only at hSw); go_simp; (try with_reducible rfl); done)); (try simp only [Act.put, List.setIfInBounds_toArray, List.set_cons_zero, List.set_cons_succ])
          (refine takeH (i := 8) (v := ?_) (by decide +kernel) (by decide +kernel) (by kernel_rfl) (by rfl) (by exact fun _ _ _ h => h) (by rfl) ?_ (by assumption) ?_); rotate_left; (focus (intro w hSw; (try dsimp only at hSw); go_simp; (try with_reducible rfl); done)); (try simp only [Act.put, List.setIfInBounds_toArray, List.set_cons_zero, List.set_cons_succ])
          (refine takeH (i := 9) (v := ?_) (by decide +kernel) (by decide +kernel) (by kernel_rfl) (by rfl) (by exact fun _ _ _ h => h) (by rfl) ?_ (by assumption) ?_); rotate_left; (focus (intro w hSw; (try dsimp only at hSw); go_simp; (try with_reducible rfl); done)); (try simp only [Act.put, List.setIfInBounds_toArray, List.set_cons_zero, List.set_cons_succ])
          (refine takeH (i := 10) (v := ?_) (by decide +kernel) (by decide +kernel) (by kernel_rfl) (by rfl) (by exact fun _ _ _ h => h) (by rfl) ?_ (by assumption) ?_); rotate_left; (focus (intro w hSw; (try dsimp only at hSw); go_simp; (try with_reducible rfl); done)); (try simp only [Act.put, List.setIfInBounds_toArray, List.set_cons_zero, List.set_cons_succ])
          (refine takeH (i := 11) (v := ?_) (by decide +kernel) (by decide +kernel) (by kernel_rfl) (by rfl) (by exact fun _ _ _ h => h) (by rfl) ?_ (by assumption) ?_); rotate_left; (focus (intro w hSw; (try dsimp only at hSw); go_simp; (try with_reducible rfl); done)); (try simp only [Act.put, List.setIfInBounds_toArray, List.set_cons_zero, List.set_cons_succ])
          (refine takeH (i := 12) (v := ?_) (by decide +kernel) (by decide +kernel) (by kernel_rfl) (by rfl) (by exact fun _ _ _ h => h) (by rfl) ?_ (by assumption) ?_); rotate_left; (focus (intro w hSw; (try dsimp only at hSw); go_simp; (try with_reducible rfl); done)); (try simp only [Act.put, List.setIfInBounds_toArray, List.set_cons_zero, List.set_cons_succ])
          (refine takeH (i := 13) (v := ?_) (by decide +kernel) (by decide +kernel) (by kernel_rfl) (by rfl) (by exact fun _ _ _ h => h) (by rfl) ?_ (by assumption) ?_); rotate_left; (focus (intro w hSw; (try dsimp only at hSw); go_simp; (try with_reducible rfl); done)); (try simp only [Act.put, List.setIfInBounds_toArray, List.set_cons_zero, List.set_cons_succ])
          (refine takeH (i := 14) (v := ?_) (by decide +kernel) (by decide +kernel) (by kernel_rfl) (by rfl) (by exact fun _ _ _ h => h) (by rfl) ?_ (by assumption) ?_); rotate_left; (focus (intro w hSw; (try dsimp only at hSw); go_simp; (try with_reducible rfl); done)); (try simp only [Act.put, List.setIfInBounds_toArray, List.set_cons_zero, List.set_cons_succ])
          (refine takeH (i := 15) (v := ?_) (by decide +kernel) (by decide +kernel) (by kernel_rfl) (by rfl) (by exact fun _ _ _ h => h) (by rfl) ?_ (by assumption) ?_); rotate_left; (focus (intro w hSw; (try dsimp only at hSw); go_simp; (try with_reducible rfl); done)); (try simp only [Act.put, List.setIfInBounds_toArray, List.set_cons_zero, List.set_cons_succ])
          (refine takeH (i := 16) (v := ?_) (by decide +kernel) (by decide +kernel) (by kernel_rfl) (by rfl) (by exact fun _ _ _ h => h) (by rfl) ?_ (by assumption) ?_); rotate_left; (focus (intro w hSw; (try dsimp only at hSw); go_simp; (try with_reducible rfl); done)); (try simp only [Act.put, List.setIfInBounds_toArray, List.set_cons_zero, List.set_cons_succ])
          (refine takeH (i := 17) (v := ?_) (by decide +kernel) (by decide +kernel) (by kernel_rfl) (by rfl) (by exact fun _ _ _ h => h) (by rfl) ?_ (by assumption) ?_); rotate_left; (focus (intro w hSw; (try dsimp only at hSw); go_simp; (try with_reducible rfl); done)); (try simp only [Act.put, List.setIfInBounds_toArray, List.set_cons_zero, List.set_cons_succ])
          (refine takeH (i := 18) (v := ?_) (by decide +kernel) (by decide +kernel) (by kernel_rfl) (by rfl) (by exact fun _ _ _ h => h) (by rfl) ?_ (by assumption) ?_); rotate_left; (focus (intro w hSw; (try dsimp only at hSw); go_simp; (try with_reducible rfl); done)); (try simp only [Act.put, List.setIfInBounds_toArray, List.set_cons_zero, List.set_cons_succ])
          (refine takeH (i := 19) (v := ?_) (by decide +kernel) (by decide +kernel) (by kernel_rfl) (by rfl) (by exact fun _ _ _ h => h) (by rfl) ?_ (by assumption) ?_); rotate_left; (focus (intro w hSw; (try dsimp only at hSw); go_simp; (try with_reducible rfl); done)); (try simp only [Act.put, List.setIfInBounds_toArray, List.set_cons_zero, List.set_cons_succ])
          (refine takeH (i := 20) (v := ?_) (by decide +kernel) (by decide +kernel) (by kernel_rfl) (by rfl) (by exact fun _ _ _ h => h) (by rfl) ?_ (by assumption) ?_); rotate_left; (focus (intro w hSw; (try dsimp only at hSw); go_simp; (try with_reducible rfl); done)); (try simp only [Act.put, List.setIfInBounds_toArray, List.set_cons_zero, List.set_cons_succ])
          (refine takeH (i := 21) (v := ?_) (by decide +kernel) (by decide +kernel) (by kernel_rfl) (by rfl) (by exact fun _ _ _ h => h) (by rfl) ?_ (by assumption) ?_); rotate_left; (focus (intro w hSw; (try dsimp only at hSw); go_simp; (try with_reducible rfl); done)); (try simp only [Act.put, List.setIfInBounds_toArray, List.set_cons_zero, List.set_cons_succ])
          (refine takeH (i := 22) (v := ?_) (by decide +kernel) (by decide +kernel) (by kernel_rfl) (by rfl) (by exact fun _ _ _ h => h) (by rfl) ?_ (by assumption) ?_); rotate_left; (focus (intro w hSw; (try dsimp only at hSw); go_simp; (try with_reducible rfl); done)); (try simp only [Act.put, List.setIfInBounds_toArray, List.set_cons_zero, List.set_cons_succ])
          refine nextH (i := 23) (by decide +kernel) (by rfl) (by rfl) (fun K hK => ?_)
          (go_simp; (have HBX : Hid (BoxP wr.heap.size [.int .i64 x.b, .int .i64 x.a, .int .i64 s2, .bool x.forfeit] (wr.alloc (.cells #[.int .i64 x.b, .int .i64 x.a, .int .i64 s2, .bool x.forfeit] 86)).drew) := ((Fr.start wr.drew).alloc #[.int .i64 x.b, .int .i64 x.a, .int .i64 s2, .bool x.forfeit] 86).at 0 rfl); (have HO4 : Hid ((wr.alloc (.cells #[.int .i64 x.b, .int .i64 x.a, .int .i64 s2, .bool x.forfeit] 86)).drew.ownsRow wq.heap.size 86 4 (.slice (some ⟨g, 0, none⟩) j c) j (flat mtRL.f ((turnM l).take j))) := own_below HOD.out (below_alloc1 wr.drew (.cells #[.int .i64 x.b, .int .i64 x.a, .int .i64 s2, .bool x.forfeit] 86)) (Nat.le_refl _)); (have HB4 : Hid (Below wq.heap.size wq (wr.alloc (.cells #[.int .i64 x.b, .int .i64 x.a, .int .i64 s2, .bool x.forfeit] 86)).drew) := below_next HBD.out (below_alloc1 wr.drew (.cells #[.int .i64 x.b, .int .i64 x.a, .int .i64 s2, .bool x.forfeit] 86))); (have HSS4 := Lib.hid (HKC.out (wr.alloc (.cells #[.int .i64 x.b, .int .i64 x.a, .int .i64 s2, .bool x.forfeit] 86)).drew (below_alloc1 wr.drew (.cells #[.int .i64 x.b, .int .i64 x.a, .int .i64 s2, .bool x.forfeit] 86)))); (have HX4 : Hid (Below wr.drew.heap.size wr.drew (wr.alloc (.cells #[.int .i64 x.b, .int .i64 x.a, .int .i64 s2, .bool x.forfeit] 86)).drew) := below_alloc1 wr.drew (.cells #[.int .i64 x.b, .int .i64 x.a, .int .i64 s2, .bool x.forfeit] 86)))
          refine hK.out _ _ ?_ (fun hHeld' => ?_)
          (focus ((try dsimp only); (first | done | ((first | exact HSS5.out | exact HSS4.out | exact HSS.out); done))))
          clear hK K hHeld
          have hHeld := hHeld'
          clear hHeld'
          (try simp only [Act.put, List.setIfInBounds_toArray, List.set_cons_zero, List.set_cons_succ])
          refine nextH (i := 24) (by decide +kernel) (by rfl) (by rfl) (fun K hK => ?_)
          (refine wp_append_lies _ _ _ 68 rfl wq.heap.size 86 i0 _ 4 32 Try.underlying68 hi hz0 hz1 hz2 rfl (by decide) _ _ _ rfl HO4.out ⟨wr.heap.size, 0, none⟩ 1 1 [.int .i64 x.b, .int .i64 x.a, .int .i64 s2, .bool x.forfeit] rfl rfl (fun j u hu => by rw [addr_addT, Nat.zero_add]; exact HBX.out j u hu) (by intro u hu; simp at hu; rcases hu with rfl | rfl | rfl | rfl <;> rfl) (by decide) (by have := HL1.out; unfold maxLen; omega) (by have := HL1.out; omega) HB4.out.size _ rfl ?_; (intro g6 c6 w6 ho6 hg6 hat6 hlt6); (have HO6 : Hid (w6.ownsRow wq.heap.size 86 4 (.slice (some ⟨g6, 0, none⟩) (j + 1) c6) (j + 1) (flat mtRL.f ((turnM l).take (j + 1)))) := by (unfold Hid; rw [HTS.out, flat_append, flat_one]; exact ho6)); (have HB6 := Lib.hid (below_grown HB4.out hg6 (fun q hq => (HO4.out.lt q hq).1))); (have HSS5 : Hid (w6.cell? ⟨b, off + q * 4, none⟩ = some (.int .i64 x.a) ∧ w6.cell? ⟨b, off + q * 4 + 1, none⟩ = some (.int .i64 x.b) ∧ w6.cell? ⟨b, off + q * 4 + 2, none⟩ = some (.int .i64 x.score) ∧ w6.cell? ⟨b, off + q * 4 + 3, none⟩ = some (.bool x.forfeit)) := by (obtain ⟨a0, a1, a2, a3⟩ := HSS4.out; have hbb := HBLO.out; have cf := fun o => hg6.cell_far ⟨b, o, none⟩ (Nat.lt_of_lt_of_le (show b < wr.drew.heap.size from hbb.1) HX4.out.size) (fun e => by have := (HO4.out.lt b e.symm).1; omega); exact ⟨(cf _).trans a0, (cf _).trans a1, (cf _).trans a2, (cf _).trans a3⟩)); (clear ho6 hg6 hat6 hlt6))
          refine hK.out _ _ ?_ (fun hHeld' => ?_)
          (focus ((try dsimp only); (first | done | ((first | exact HSS5.out | exact HSS4.out | exact HSS.out); done))))
          clear hK K hHeld
          have hHeld := hHeld'
          clear hHeld'
          (try simp only [Act.put, List.setIfInBounds_toArray, List.set_cons_zero, List.set_cons_succ])
          (refine takeH (i := 25) (v := ?_) (by decide +kernel) (by decide +kernel) (by kernel_rfl) (by rfl) (by exact fun _ _ _ h => h) (by rfl) ?_ (by assumption) ?_); rotate_left; (focus (intro w hSw; (try dsimp only at hSw); go_simp; (try with_reducible rfl); done)); (try simp only [Act.put, List.setIfInBounds_toArray, List.set_cons_zero, List.set_cons_succ])
          refine wpAnyH_done (by decide +kernel) ?_ _
          clear hHeld HBX HO4 HB4 HSS4 HX4 HSS5 HSS HKC HOD HBD HTS
          have hwq2 : IntKind.i64.wrap ((q : Int) - 1) = (q : Int) - 1 := IntWalk.i64_in _ (by have := HL1.out; omega)
          have hqj := HQ.out
          go_wp2
          go_roundw
          case rel => exact ⟨j + 1, g6, c6, rfl, by first | (simp; omega) | (congr 1; omega), by omega, HO6, HB6⟩
          case measure => simp [intOf] <;> omega
        · obtain ⟨I, hI⟩ : ∃ I, I = (l.length : Int) - 1 - (j : Int) := ⟨_, rfl⟩
          rw [← hI]
          have hI0 : ¬ (0 : Int) ≤ I := by omega
          have hjl : (turnM l).length = j := by rw [turnM_len]; omega
          have hrow : Row wr (some ⟨g, 0, none⟩) (flat mtRL.f (turnM l)) := by
            have h1 := own_row HO.out
            rwa [List.take_of_length_le (by omega)] at h1
          have htp := tableP_turn HV.out
          have hTE : tableP (N : Int) l = T := by rw [HEQ.out.1]; unfold tableP; rw [HV.out]; rfl
          have HCO : Hid (Calls Try.prog 39 #[.int .i64 (N : Int), .slice (some ⟨g, 0, none⟩) j c] wr (RwResC wr T 0)) := by
            have h1 := iTableOf_c (N : Int) (turnM l) (some ⟨g, 0, none⟩) c wr hrow (by have := HL1.out; rw [turnM_len]; omega)
            rw [htp.1, htp.2, hTE, hjl] at h1
            exact h1
          have HWR : Hid (Below w11.heap.size w11 wr) := HWQ.out.trans (HB.out.mono HWQ.out.size)
          have hw2l : IntKind.i64.wrap (2 * (l.length : Int)) = 2 * (l.length : Int) := IntWalk.i64_in _ (by have := HL1.out; omega)
          have hT12 : Hid (T.length = N ∧ 2 ≤ N ∧ N ≤ 12) := by have h1 := HLEN.out.1; have h2 := HN.out; exact ⟨h1, by omega, by omega⟩
          clear hI hjl hrow htp hTE HO HB HWQ hj hlt
          go_wp2_with fail
          refine HCO.out.mono ?_
          rintro e w20 ⟨oa, oc, rfl, hp20, hb20⟩
          have HW20 := Lib.hid (below_next HWR.out hb20)
          have HOR := Lib.hid (rw_row hp20.mk')
          clear hp20 hb20 HCO HWR
          go_wp2_with fail
          refine (f6rows_c T oa (some ⟨gt, 0, none⟩) oc tc _ HOR.out (HTR.out _ HW20.out) (by have := hT12.out; omega)).mono ?_
          rintro e w21 ⟨rfl, hb21⟩
          have HW21 := Lib.hid (below_next HW20.out hb21)
          clear hb21 HOR HW20 hw2l hwl1
          have hTN : T.length = N := hT12.out.1
          go_wp2_with fail
          go_loopw [24] (fun i wr => ∃ (k : Nat), i = .int .i64 (k : Int) ∧ k ≤ N ∧ Hid (Below w11.heap.size w11 wr)) (fun i _ => N - (intOf i).toNat)
          case atStart => exact ⟨0, rfl, Nat.zero_le _, HW21⟩
          case round =>
            clear HW21
            obtain ⟨k, rfl, hk, HW⟩ := hrel
            have hN12 := hT12.out.2.2
            by_cases hlt : k < N
            · have hkI : (k : Int) < (T.length : Int) := by omega
              have hkT : k < T.length := by omega
              obtain ⟨x, hx⟩ : ∃ x, T[k]? = some x := ⟨_, List.getElem?_eq_getElem hkT⟩
              have hx' := hx
              rw [HEQ.out.1] at hx'
              obtain ⟨p, hp, hpx, hpr⟩ := table_at hx'
              have hrk := rank_le hx'
              rw [← HEQ.out.2.1] at hrk hpr
              have z0 := HTX.out k _ x hx HW.out
              rw [hpx] at z0
              have z1 := HKX.out p _ x hpr HW.out
              obtain ⟨rk, hrke⟩ : ∃ r, r = rankR R x := ⟨_, rfl⟩
              rw [← hrke] at z1 hrk
              have hpI : (p : Int) < (K.length : Int) := by have := HLEN.out.2.2; omega
              have hw1 : IntKind.i64.wrap ((k : Int) + 1) = (k : Int) + 1 := IntWalk.i64_in _ (by omega)
              have hrk2 : ¬ (k : Int) + 1 < rk := by omega
              rcases Nat.eq_zero_or_pos k with rfl | hkp
              · clear hx hx' hpx hpr hrke hrk hp
                go_wp2
                go_roundw
                case rel => exact ⟨1, by go_num, by omega, HW⟩
                case measure => simp [intOf] <;> omega
              · obtain ⟨i, hi1⟩ : ∃ i, k = i + 1 := ⟨k - 1, by omega⟩
                have hkiT : i < T.length := by omega
                obtain ⟨y, hy⟩ : ∃ y, T[i]? = some y := ⟨_, List.getElem?_eq_getElem hkiT⟩
                have hy' := hy
                rw [HEQ.out.1] at hy'
                obtain ⟨p2, hp2, hpy, hpr2⟩ := table_at hy'
                have hmono := rank_mono hy' (by rw [← hi1]; exact hx')
                rw [← HEQ.out.2.1] at hmono hpr2
                have u0 := HTX.out i _ y hy HW.out
                rw [hpy] at u0
                have u1 := HKX.out p2 _ y hpr2 HW.out
                obtain ⟨rk2, hrke2⟩ : ∃ r, r = rankR R y := ⟨_, rfl⟩
                rw [← hrke2] at u1 hmono
                rw [← hrke] at hmono
                have hpI2 : (p2 : Int) < (K.length : Int) := by have := HLEN.out.2.2; omega
                have hrk3 : ¬ rk < rk2 := by omega
                have hiI : (i : Int) < (T.length : Int) := by omega
                have hsub : IntKind.i64.wrap ((k : Int) - 1) = (i : Int) := by rw [IntWalk.i64_in _ (by omega)]; omega
                have hk0I : (0 : Int) < (k : Int) := by omega
                clear hx hx' hpx hpr hrke hrk hp hy hy' hpy hpr2 hrke2 hmono hp2 hi1 hkiT hkT
                go_wp2
                go_roundw
                case rel => exact ⟨k + 1, by go_num, by omega, HW⟩
                case measure => simp [intOf] <;> omega
            · have hkI : ¬ (k : Int) < (T.length : Int) := by omega
              have h0T : 0 < T.length := by have := hT12.out; omega
              have h0I : (0 : Int) < (T.length : Int) := by omega
              obtain ⟨x, hx⟩ : ∃ x, T[0]? = some x := ⟨_, List.getElem?_eq_getElem h0T⟩
              have hx' := hx
              rw [HEQ.out.1] at hx'
              obtain ⟨p, hp, hpx, hpr⟩ := table_at hx'
              have hrk := rank_le hx'
              have hrk0 := rank_ge (rowsP N l) x
              rw [← HEQ.out.2.1] at hrk hrk0 hpr
              have z0 := HTX.out 0 _ x hx HW.out
              rw [hpx, Nat.zero_mul] at z0
              have z1 := HKX.out p _ x hpr HW.out
              have h1 : rankR R x = 1 := by omega
              rw [h1] at z1
              have hpI : (p : Int) < (K.length : Int) := by have := HLEN.out.2.2; omega
              have HE : Hid (Below w.heap.size w wr) := HFB.out.trans (HW.out.mono HFB.out.size)
              clear hx hx' hpx hpr hrk hrk0 h1 hp HW
              go_wp2
              go_ret
              exact ⟨rfl, HE.out⟩

set_option maxRecDepth 100000 in
theorem contract (H : Type) (enc : TypeId × Value → H) (W : World) (base : Nat) (args : Array Value) (ds gs : List (DataW H)) (before : List MemPlace)
    (hval : ∀ (j : Nat) t v, Try.f9.params[j]? = some t → args[j]? = some v → Value.okWide Try.prog W .any base t v)
    (hW : DataW.Whole enc Try.prog Try.f9.params.toList Rows.fnTablesSpec.vars false W args.toList ds gs before) :
    Calls Try.prog 9 args W fun e W' => ∃ v, e = .returned v ∧ Rows.fnTablesSpec.post enc Try.prog Try.f9 false true false false W args v W' := by
  have hW' := hW
  obtain ⟨p, q, hA0, hV, rfl, hfz, hnd⟩ := hW
  have hA : DataW.TrodAll enc Try.prog W 0 (fun _ => true) true Try.f9.params.toList args.toList ds p := hA0
  rw [Try.params9] at hA hval
  obtain ⟨v0, vs0, d0, ds0, p0, q0, hargs, rfl, rfl, h0, r0⟩ := trodAll_cons hA
  obtain ⟨rfl, rfl, rfl⟩ := trodAll_nil r0
  obtain rfl : args = #[v0] := by cases args; simp_all
  obtain ⟨ba0, bc0, bs0, rfl, w0⟩ := arg_bytes (hval 0 75 v0 rfl rfl) h0
  refine (walk ba0 bc0 bs0 W w0.2.1 w0.2.2.2).mono fun e W' ⟨he, hb⟩ => ?_
  subst he
  exact ⟨_, rfl, law_post hW' hb rfl rfl (by kernel_rfl) rfl⟩

set_option maxRecDepth 100000 in
theorem lifted (os : Os) (started : os.Started) (H : Type) (enc : TypeId × Value → H) :
    ReturnsInHanded {} Try.checked os 9 .any (Rows.fnTablesSpec.pre6 enc Try.prog Try.f9 Rows.fnTablesRow.domain false) (Rows.fnTablesSpec.post enc Try.prog Try.f9 false true false false) := by
  refine returnsInHanded_of_change (C := Try.checked) (s := Rows.fnTablesSpec) own started (by kernel_rfl) Try.func9
    (ChangeSpec.witness6 (enc := enc) (C := Try.checked) (s := Rows.fnTablesSpec) false ⟨#[], #[.slice none 0 0], []⟩ 8 (by kernel_rfl) (by kernel_rfl) (by kernel_rfl) (by kernel_rfl)) ?_
  intro W base args ds gs before hval hW _ _
  exact contract H enc W base args ds gs before hval hW

theorem proved : Rows.FnTablesSaid :=
  OpenClaim.holds_of_wide 9 Try.f9 rfl rfl rfl rfl rfl rfl rfl ⟨rfl, rfl, rfl, rfl, rfl⟩ rfl rfl rfl rfl rfl (by kernel_rfl) Try.func9 (by kernel_rfl)
    (of_decide_eq_true (by kernel_rfl)) (by unfold Func.isWrapper; first | (rw [if_pos (by decide +kernel)]; kernel_rfl) | (rw [if_neg (by decide +kernel)]; exact ⟨rfl, rfl⟩))
    (fun os started H enc _ => lifted os started H enc)
end Go.Proofs.Ytbjgigdkbjabaaa.lTables
