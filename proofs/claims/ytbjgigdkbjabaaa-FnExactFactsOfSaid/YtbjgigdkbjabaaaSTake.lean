/- STake: captures are taken: the reference's function. The contract holds for every argument, under the premises that it states. -/
import Derived.Test.YtbjgigdkbjabaaaSCap2
import Derived.Test.YtbjgigdkbjabaaaCap4
import Derived.Deep.RegionLaw
namespace Go.Proofs.Ytbjgigdkbjabaaa
set_option linter.unusedSimpArgs false
set_option linter.unusedVariables false
set_option linter.unnecessarySimpa false
open Go.RowKit Go.ChangeShapes Go.WideShapes Go.ChangeAt Go.Joins

set_option maxRecDepth 100000 in
set_option maxHeartbeats 8000000 in
theorem l06Take_c (rb ro b0 o0 : Nat) (r : R) (hb : r.Bd) (pn : Nat) (hp : pn ≤ 1) (P S : List Int) (last laps : Int) (pa sa : Option Addr) (pc sc : Nat) (w : World) (hr : R.At w rb ro r) (hs : SnA w b0 o0 P S last laps pa pc sa sc) (hP : Ints w pa P) (hS : Ints w sa S) (hlen : (P.length : Int) = 2 * r.pits) (hsl : S.length = 2) (hpo : PlaceOk r last) (ha : allIn P = true) (hbs : bdL S 96) :
    Calls Try.prog 149 #[.pointer (some ⟨rb, ro, none⟩), .pointer (some ⟨b0, o0, none⟩), .int .i64 (pn : Int)] w (TakeRes w (takeP r pn P S last).1 (takeP r pn P S last).2 last laps) := by
  have hbd : bdL P 96 := fun n hn => allIn_get ha hn
  have hlo := hb.lo
  have hhi := hb.hi
  have hrb : rb < w.heap.size := World.block_lt_of_cell? w _ hr.c0
  have hsb : b0 < w.heap.size := World.block_lt_of_cell? w _ hs.c0
  obtain ⟨l, hl⟩ : ∃ l, l = capP r pn P last := ⟨_, rfl⟩
  obtain ⟨hok, llen⟩ := capP_ok hb pn P last hlen hpo
  rw [← hl] at hok llen
  have HTK : Hid (∀ W, Below w.heap.size w W → Calls Try.prog 116 #[.pointer (some ⟨rb, ro, none⟩), .pointer (some ⟨b0, o0, none⟩), .int .i64 (pn : Int)] W (IntsRes W l)) := fun W hW => by
    rw [hl]; exact l06Pits_c rb ro b0 o0 r hb pn hp P S last laps pa sa pc sc W (hr.below hW hrb) (hs.below hW hsb) (hP.below hW (Nat.le_refl _)) hlen hpo ha
  have HRES : Hid ((takeP r pn P S last).1 = zeroP P l ∧ (takeP r pn P S last).2 = S.set pn (S.getD pn 0 + gainP P l)) := by
    unfold Hid takeP; rw [← hl]; simp
  have m1 : P.length ≤ 16777216 := by omega
  have m2 : S.length ≤ 16777216 := by omega
  have lP : 0 < P.length := by omega
  have lS : 0 < S.length := by omega
  have HSM : Hid (∀ (W : World) (la : Option Addr) (lc : Nat), Below w.heap.size w W → Ints W la l → Calls Try.prog 118 #[.pointer (some ⟨b0, o0, none⟩), .slice la l.length lc] W fun e w' => e = .returned (.int .i64 (gainP P l)) ∧ ∃ m, w' = W.drewN m) := fun W la lc hW hl' =>
    l06Sum_c b0 o0 P S l last laps pa sa la pc sc lc W (hs.below hW hsb) (hP.below hW (Nat.le_refl _)) hl' hbd hok (by omega) lP
  obtain ⟨lok, lnd⟩ := hok
  have F0 := (Fr.start w).allocF #[.slice none 0 0, .slice none 0 0, .int .i64 0, .int .i64 0] 148
  have HHP := Lib.hid hP
  have HHS := Lib.hid hS
  have HSL := Lib.hid hsl
  have HS0 := Lib.hid hs
  clear hl hP hS hsl hlen hpo hr hs
  go_enter Try.func149, Try.ntmps149
  go_wp2_with fail
  refine (HTK.out _ F0.below).mono ?_
  rintro e w1 ⟨la, lc, rfl, hol, hb1⟩
  have F1 := (F0.step hb1).own hol
  simp only [World.size_alloc] at F1
  have B1 := F1.below
  obtain ⟨s0, s1, s2, s3⟩ := HS0.out.below B1 hsb
  have z1 : w.heap.size + 1 ≤ w1.heap.size := F1.le 1 rfl
  have hsb1 : b0 < w1.heap.size := by omega
  clear F0 hb1 hol
  go_upto_region 2 with fail
  go_cut [8] from 14 to 32 (fun s8 wx => ∃ nb pg qc sg tc, s8 = .pointer (some ⟨nb, 0, none⟩) ∧ SnI w1.heap.size wx nb 0 pg qc sg tc P S ∧ Fld wx nb 0 last laps ∧ Below w1.heap.size w1 wx)
  case first =>
    go_region_held3 (fun w' => ∀ b o, b < w1.heap.size → w'.cell? ⟨b, o, none⟩ = w1.cell? ⟨b, o, none⟩)
      ((intro b o hbo; refine Below.cell (B := w1.heap.size) ?_ (show (Addr.mk b o none).block < _ from hbo); first | (with_reducible exact G3.below) | (with_reducible exact G3.below.alloc G3.below.size _) | (with_reducible exact G2.below) | (with_reducible exact G2.below.alloc G2.below.size _) | (with_reducible exact (Fr.start w1).drew.below) | (with_reducible exact ((Fr.start w1).allocF _ _).drew.below) | (repeat (first | (with_reducible exact G3.below) | ((with_reducible refine Below.setCell ?_ ?_ _); rotate_left; (simp <;> omega))))))
      (first
      | (go_at_call 105; have tk := hb2; first | (refine (l00Own_c sa sc S _ (HHS.out.below (B1.trans (G2.below.mono B1.size)) (Nat.le_refl _)) m2).mono ?_) | (refine (l00Own_c sa sc S _ (HHS.out.below (B1.trans ((G2.below.alloc G2.below.size _).mono B1.size)) (Nat.le_refl _)) m2).mono ?_)
         rintro e w3 ⟨sa', sc', rfl, ho3, hb3⟩
         first | (have G3 := G2.step hb3) | (have G3 := (G2.allocF #[.slice none 0 0, .slice none 0 0, .int .i64 0, .int .i64 0] 148).step hb3)
         have s3 := hb3.size
         try simp only [World.size_alloc, World.size_drew] at s3
         try (obtain ⟨bx, bf⟩ := G3.at 0 rfl; have y0 := bx 0 _ rfl; have y1 := bx 1 _ rfl; have y2 := bx 2 _ rfl; have y3 := bx 3 _ rfl; try simp only [World.size_alloc, World.size_drew] at y0 y1 y2 y3 bf))
      | (go_at_call 105; first | (refine (l00Own_c pa pc P _ (HHP.out.below (B1.trans ((Fr.start w1).drew.below.mono B1.size)) (Nat.le_refl _)) m1).mono ?_) | (refine (l00Own_c pa pc P _ (HHP.out.below (B1.trans (((Fr.start w1).allocF _ _).drew.below.mono B1.size)) (Nat.le_refl _)) m1).mono ?_)
         rintro e w2 ⟨pa', pc', rfl, ho2, hb2⟩
         first | (have G2 := (Fr.start w1).drew.step hb2) | (have G2 := ((Fr.start w1).allocF #[.slice none 0 0, .slice none 0 0, .int .i64 0, .int .i64 0] 148).drew.step hb2)
         have s2 := hb2.size
         try simp only [World.size_alloc, World.size_drew] at s2))
    all_goals (go_wp2_with fail)
    all_goals go_meet
    all_goals
      have h12 : ∀ k, k < w2.heap.size → w3.heap[k]? = w2.heap[k]? := fun k hk => (by first | exact hb3.block k hk | exact (below_next (below_alloc1 _ _) hb3).block k hk)
      have BG := G3.below
      obtain ⟨pg, rfl, hp1, hp2⟩ := own_lt_n ho2 lP
      obtain ⟨sg, rfl, hs1, hs2⟩ := own_lt_n ho3 lS
      try simp only [World.size_alloc, World.size_drew] at ho2
      try simp only [World.size_alloc, World.size_drew] at ho3
    · refine ⟨_, pg, pc', sg, sc', rfl, two_rows ho2 ho3 h12 (fun k hk _ => (below_alloc1 w3 _).block k hk) (by omega) (by omega) (by omega) (by omega) (by omega) (by omega) (by simp) (by simp), ⟨by simp, by simp, by intro o; simp⟩, BG.alloc BG.size _⟩
    all_goals
      have FS := (Fr.from BG).stored4 (v0 := .slice (some ⟨pg, 0, none⟩) P.length pc') (v1 := .slice (some ⟨sg, 0, none⟩) S.length sc') (v2 := .int .i64 last) (v3 := .int .i64 laps) (by omega) (by simp) y0 y1 y2 y3
      refine ⟨_, pg, pc', sg, sc', rfl, two_rows ho2 ho3 h12 (fun k hk hn => ?_) (by omega) (by omega) (by omega) (by omega) (by omega) (by omega) (FS.at 0 rfl 0 _ rfl) (FS.at 0 rfl 1 _ rfl), ⟨FS.at 0 rfl 2 _ rfl, FS.at 0 rfl 3 _ rfl, fun o => by simpa using bf o⟩, FS.below⟩
      rw [Below.heap_setCell _ _ _ k hn, Below.heap_setCell _ _ _ k hn, Below.heap_setCell _ _ _ k hn, Below.heap_setCell _ _ _ k hn]
  case rest =>
    obtain ⟨nb, pg, qc, sg, tc, rfl, hsn, hfl, hbz⟩ := hcut
    have F2 := F1.step hbz
    clear s0 s1 s2 s3 F1
    obtain ⟨hi1, hhi1⟩ : ∃ n, n = w1.heap.size := ⟨_, rfl⟩
    have F2' : Fr w wc [⟨w.heap.size + 1, hi1, RowP (w.heap.size + 1) hi1 la lc l⟩, ⟨w.heap.size, w.heap.size + 1, BoxF w.heap.size (#[.slice none 0 0, .slice none 0 0, .int .i64 0, .int .i64 0] : Array Value).toList⟩] := by rw [hhi1]; exact F2
    have hsn0 := hsn
    rw [← hhi1] at hsn
    have hpg := (own_head hsn.op).1
    have hsg := (own_head hsn.os).1
    have hnb := hsn.nb0
    have h13 : w.heap.size + 1 ≤ hi1 := by omega
    obtain ⟨a0, ha0⟩ : ∃ a0, a0 = S.getD pn 0 := ⟨_, rfl⟩
    have ha0b : 0 ≤ a0 ∧ a0 ≤ 96 := by rw [ha0]; exact getD_bd hbs (by omega) pn
    obtain ⟨a0l, a0h⟩ := ha0b
    obtain ⟨g0, g1⟩ := gainP_bd hbd (by omega) l
    obtain ⟨G, hG⟩ : ∃ G, G = gainP P l := ⟨_, rfl⟩
    rw [← hG] at HSM HRES g0 g1
    have g2 : G ≤ 96 * 16 := by omega
    rw [← ha0] at HRES
    have hpnS : pn < S.length := by have := HSL.out; omega
    have hpnI : (pn : Int) < (S.length : Int) := by omega
    have es : wc.cell? ⟨sg, pn, none⟩ = some (.int .i64 a0) := by
      rw [hsn.os.cellAt pn (by omega), ha0]
      simp [hpnS]
    have fs := hsn.os.frozenAt pn
    have e1 := hsn.c1
    simp only [Nat.zero_add] at e1
    have n1 := hsn.n1
    have n2 := hsn.n2
    have n3 := hsn.n3
    have n3' : ¬ nb = sg := fun e => n3 e.symm
    have n2' : ¬ nb = pg := fun e => n2 e.symm
    have HSN := Lib.hid (⟨hsn, hfl, F2'⟩ : _ ∧ _ ∧ _)
    have hwr : IntKind.i64.wrap (a0 + G) = a0 + G := IntWalk.i64_in _ (by omega)
    clear hsn0 hsn hfl F2 F2' hG ha0 hhi1 g1
    go_upto_region 3 with fail
    go_cut [] from 33 to 42 (fun wx => SnI hi1 wx nb 0 pg qc sg tc P (S.set pn (a0 + G)) ∧ Fld wx nb 0 last laps ∧ Fr w wx [⟨w.heap.size + 1, hi1, RowP (w.heap.size + 1) hi1 la lc l⟩, ⟨w.heap.size, w.heap.size + 1, BoxF w.heap.size (#[.slice none 0 0, .slice none 0 0, .int .i64 0, .int .i64 0] : Array Value).toList⟩])
    case first =>
      go_region_law (first
        | (go_simp; go_at_call 118; refine (HSM.out _ la lc HSN.out.2.2.drew.below (own_row (HSN.out.2.2.drew.at 0 rfl).1)).mono ?_; rintro e w3 ⟨rfl, m, hw3⟩; have hx3 : ∀ b o, w3.cell? ⟨b, o, none⟩ = wc.cell? ⟨b, o, none⟩ := (fun b o => by rw [hw3]; rfl); have es3 := (hx3 _ _).trans es; have e13 := (hx3 _ _).trans e1; have fs3 : w3.frozen? ⟨sg, pn, none⟩ = false := (by rw [hw3]; exact fs); have HW3 := Lib.hid hw3; clear hw3))
      all_goals (go_wp2_with fail)
      all_goals go_meet
      all_goals
        have D3 : Below wc.heap.size wc w3 := by rw [HW3.out]; exact (Below.refl _ _).drew.trans (below_draws _ _ _)
        obtain ⟨hsn, hfl, F⟩ := HSN.out
        exact ⟨(hsn.below D3).sto pn (a0 + G), (hfl.below D3).other n3' _, (F.step D3).chg0 (chg_set _ sg pn _) (by omega) (by simp; omega)⟩
    case rest =>
      obtain ⟨hsn2, hfl2, Fc2⟩ := hcut
      obtain ⟨T2, hT2⟩ : ∃ T2, T2 = S.set pn (a0 + G) := ⟨_, rfl⟩
      rw [← hT2] at hsn2 HRES
      have HST := Lib.hid (⟨hsn2, hfl2, Fc2⟩ : _ ∧ _ ∧ _)
      clear hsn2 hfl2 Fc2 HSN es fs e1 hwr hpnS hpnI g0 g2 hT2
      go_wp2
      go_loopw [9] (fun i wr => ∃ k : Nat, k ≤ l.length ∧ i = .int .i64 k ∧ SnI hi1 wr nb 0 pg qc sg tc (zeroP P (l.take k)) T2 ∧ Fld wr nb 0 last laps ∧ Fr w wr [⟨w.heap.size + 1, hi1, RowP (w.heap.size + 1) hi1 la lc l⟩, ⟨w.heap.size, w.heap.size + 1, BoxF w.heap.size (#[.slice none 0 0, .slice none 0 0, .int .i64 0, .int .i64 0] : Array Value).toList⟩]) (fun i _ => l.length - (intOf i).toNat)
      case atStart => exact ⟨0, Nat.zero_le _, rfl, by simpa [zeroP] using HST.out.1, HST.out.2.1, HST.out.2.2⟩
      case round =>
        clear HST
        obtain ⟨k, hk, rfl, hsn, hfl, F⟩ := hrel
        by_cases hlt : k < l.length
        · have hZC := Lib.hid (zeroP_succ P l hlt)
          obtain ⟨hx0, hx1⟩ := lok l[k] (List.getElem_mem hlt)
          obtain ⟨x, hx⟩ : ∃ x : Nat, l[k] = x := ⟨l[k].toNat, by omega⟩
          have hxl : x < P.length := by omega
          rw [hx] at hZC
          simp only [Int.toNat_natCast] at hZC
          obtain ⟨Z, hZ⟩ : ∃ Z, Z = zeroP P (l.take k) := ⟨_, rfl⟩
          have hZl : Z.length = P.length := by rw [hZ]; exact zeroP_length _ _
          have hxZ : x < Z.length := by omega
          have hxZI : (x : Int) < (Z.length : Int) := by omega
          rw [← hZ] at hsn hZC
          have hrow : Ints wr la l := own_row (F.at 0 rfl).1
          obtain ⟨b', o', rfl, hb', hcl⟩ := Ints.open hrow (by omega)
          have hcx := hcl k hlt
          rw [hx] at hcx
          have e0 := hsn.c0
          have ep : wr.cell? ⟨pg, x, none⟩ = some (.int .i64 Z[x]) := by rw [hsn.op.cellAt x (by omega)]; simp [hxZ]
          have fp := hsn.op.frozenAt x
          have HSN := Lib.hid (⟨hsn, hfl⟩ : _ ∧ _)
          have HF := Lib.hid F
          obtain ⟨zv, hzv⟩ : ∃ zv, zv = Z[x] := ⟨_, rfl⟩
          rw [← hzv] at ep
          clear hcl hrow hx hZ hx0 hx1 hsn hfl F hzv
          go_upto_region 7 with fail
          go_still_tail 7, (by kernel_rfl)
          change wpList _ _ _ _ _ wr.drew
          have D : Below wr.heap.size wr wr.drew := (Below.refl _ _).drew
          have HSD := Lib.hid (⟨HSN.out.1.below D, HSN.out.2.below D, HF.out.drew⟩ : _ ∧ _ ∧ _)
          have epd : wr.drew.cell? ⟨pg, x, none⟩ = _ := ep
          have fpd : wr.drew.frozen? ⟨pg, x, none⟩ = _ := fp
          clear e0 ep fp hcx D
          generalize wr.drew = wd at *
          go_wp2
          go_roundw
          case rel =>
            obtain ⟨hsd, hfd, Fd⟩ := HSD.out
            refine ⟨k + 1, by omega, by go_num, ?_, ?_, ?_⟩
            · have h1 := hsd.pit x 0
              rw [hZC.out]
              exact h1
            · exact hfd.other n2' _
            · exact Fd.chg0 (chg_set _ pg x _) (by omega) (by simp; omega)
          case measure => simp [intOf]; omega
        · have he : l.take k = l := List.take_of_length_le (by omega)
          rw [he] at hsn
          obtain ⟨Z, hZ⟩ : ∃ Z, Z = zeroP P l := ⟨_, rfl⟩
          have hres := HRES.out
          rw [← hZ] at hres hsn
          have HR2 := Lib.hid hres
          have k0 := hsn.c0
          have k1 := hsn.c1
          obtain ⟨k2, k3, kz⟩ := hfl
          simp only [Nat.zero_add] at k1 k2 k3
          obtain ⟨bx, bf⟩ := F.at 1 rfl
          obtain ⟨x0, x1, x2, x3⟩ := (⟨bx 0 _ rfl, bx 1 _ rfl, bx 2 _ rfl, bx 3 _ rfl⟩ : _ ∧ _ ∧ _ ∧ _)
          have HS := Lib.hid hsn
          have BW := F.below
          have hnn : ¬ nb = w.heap.size := by omega
          have hnn' : ¬ w.heap.size = nb := by omega
          clear hsn he hres hZ bx kz
          go_wp2_with fail
          refine bodyPost_ret (v := snV Z T2 last laps (some ⟨pg, 0, none⟩) qc (some ⟨sg, 0, none⟩) tc) (by simp [results, Try.results149, go_sem, x0, x1, x2, x3, bf]) rfl ?_
          rw [HR2.out.1, HR2.out.2]
          refine ⟨some ⟨pg, 0, none⟩, qc, some ⟨sg, 0, none⟩, tc, rfl, ⟨?_, ?_, .inr (by simp [Value.ownBlock]; exact HS.out.n1)⟩, ?_⟩
          · have h1 := HS.out.op
            refine ownsRow_le (base := hi1) ?_ (by omega)
            repeat (first | (with_reducible exact h1) | ((with_reducible refine ownsRow_setCell_below ?_ ?_ _); rotate_left; (simp <;> omega)))
          · have h1 := HS.out.os
            refine ownsRow_le (base := hi1) ?_ (by omega)
            repeat (first | (with_reducible exact h1) | ((with_reducible refine ownsRow_setCell_below ?_ ?_ _); rotate_left; (simp <;> omega)))
          · repeat (first | (with_reducible exact BW) | ((with_reducible refine Below.setCell ?_ ?_ _); rotate_left; (simp <;> omega)))

end Go.Proofs.Ytbjgigdkbjabaaa
