/- Touch: the pits that a move changes: both functions. Each contract holds for every argument, under the premises that it states. -/
import Derived.Test.YtmadcifcbckcnaaRsOf
import Derived.Test.YtmadcifcbckcnaaPath
namespace Go.Proofs.Ytmadcifcbckcnaa
set_option linter.unusedSimpArgs false
set_option linter.unusedVariables false
set_option linter.unnecessarySimpa false
open Go.RowKit Go.ChangeShapes Go.WideShapes Go.ChangeAt Go.Joins

def tGo (A B : List Int) (k : Nat) : List Int := (List.range k).filterMap (fun i => if B.getD i 0 = A.getD i 0 then none else some (i : Int))
theorem tGo_same {A B : List Int} {k : Nat} (h : B.getD k 0 = A.getD k 0) : tGo A B (k + 1) = tGo A B k := by
  unfold tGo
  rw [List.range_succ, List.filterMap_append]
  simp only [List.filterMap_cons, List.filterMap_nil]
  rw [if_pos h]
  simp
theorem tGo_other {A B : List Int} {k : Nat} (h : ¬ B.getD k 0 = A.getD k 0) : tGo A B (k + 1) = tGo A B k ++ [(k : Int)] := by
  unfold tGo
  rw [List.range_succ, List.filterMap_append]
  simp only [List.filterMap_cons, List.filterMap_nil]
  rw [if_neg h]
theorem tGo_len (A B : List Int) (k : Nat) : (tGo A B k).length ≤ k := by
  have := List.length_filterMap_le (fun i => if B.getD i 0 = A.getD i 0 then none else some (i : Int)) (List.range k)
  simpa [tGo] using this
def touchP (r : R) (p : P) (move : Int) : List Int × Int := if (doneP r p move).code = 0 then (tGo p.pits (makeP r p move).pits p.pits.length, 0) else ([], (doneP r p move).code)
theorem doneP_lens {r : R} {p : P} {move : Int} (h : (doneP r p move).code = 0) : (makeP r p move).pits.length = p.pits.length ∧ p.pits.length ≤ 24 := by
  obtain ⟨hc0, L, n, ho⟩ := doneP_zero h
  obtain ⟨hok, hbd, ⟨pn, hpn, hpn1⟩, t, hB, ht1, hpl⟩ := sowP_brd hc0 ho
  obtain ⟨_, _, t', hB', h0', h1'⟩ := P.ok_parts hok
  have hd : (doneP r p move).pits = (takeP r p.player L.pits L.stores L.last).1 := by
    have h1 := h
    rw [doneP_ok hc0 ho] at h1 ⊢
    unfold doneL at h1 ⊢
    by_cases a : r.slam = 1 ∧ slamP r p.player L.pits L.last = true
    · rw [if_pos a] at h1; simp [Done.bad] at h1
    · rw [if_neg a] at h1 ⊢
      split at h1
      · simp [Done.bad] at h1
      · rename_i b; rw [if_neg b]
  have h2 := (takeP_ok hbd hB ht1 (pl := p.player) (last := L.last)).2
  have h3 := hB'.lp
  have h4 := hbd.hi
  rw [makeP_ok h]
  simp only
  rw [hd]
  omega
theorem touchP_len (r : R) (p : P) (move : Int) : (touchP r p move).1.length ≤ 1048576 := by
  unfold touchP
  split
  · rename_i h
    have h1 := tGo_len p.pits (makeP r p move).pits p.pits.length
    have h2 := (doneP_lens h).2
    simp only
    omega
  · simp

set_option maxRecDepth 100000 in
set_option maxHeartbeats 8000000 in
theorem iTouchedPits_c (r : R) (p : P) (move : Int) (pa sa : Option Addr) (pc sc : Nat) (w : World) (h : PRow w p pa sa) (m1 : p.pits.length ≤ 16777216) (m2 : p.stores.length ≤ 16777216) (hc : p.pits.length ≤ pc) (hcm : pc ≤ maxLen) :
    Calls Try.prog 33 #[r.val, p.val pa pc sa sc, .int .i64 move] w (IntsRes2 w (touchP r p move)) := by
  obtain ⟨i0, hi, hz0, hz1, hz2⟩ := info_parts infoI
  have F0 := ((Fr.start w).alloc r.cells 30).alloc (p.cells pa pc sa sc) 32
  have HM := Lib.hid (resultOf_c r p move pa sa pc sc _ (h.below F0.below (Nat.le_refl _)) m1 m2 hc hcm)
  obtain ⟨y, hy⟩ : ∃ y, y = makeP r p move := ⟨_, rfl⟩
  rw [← hy] at HM
  have HCY : Hid (y.code = (doneP r p move).code) := by rw [hy]; exact makeP_code r p move
  have HY := Lib.hid hy
  have HH := Lib.hid h.pits
  clear hy h
  go_enter Try.func33, Try.ntmps33
  go_wp2_with fail
  refine HM.out.mono ?_
  rintro e w1 ⟨ua, uc, va, vc, rfl, ho, hb1⟩
  have F1 := F0.step hb1
  have F2 := (F1.pos ho).alloc (y.cells ua uc va vc) 69
  have BW1 := F2.below
  obtain ⟨d0, d1, d2⟩ := P.boxc (F1.at 0 rfl)
  have zB0 : w.heap.size + 1 < w1.heap.size := by have := F1.le 0 rfl; simp at this; omega
  have zA0 : w.heap.size < w1.heap.size := by omega
  have hzw1 : w.heap.size + 1 + 1 ≤ w1.heap.size := by have := F1.le 0 rfl; simpa using this
  simp only [World.size_alloc] at d0 d1 d2
  clear hb1 F0 F1 HM
  by_cases hz : y.code = 0
  case neg =>
    have hz' : (y.code != 0) = true := by simpa using hz
    have HE : Hid (touchP r p move = ([], y.code)) := by unfold Hid touchP; rw [← HCY.out, if_neg hz]
    clear hz
    go_wp2
    go_ret2
    rw [HE.out]
    exact ⟨none, 0, rfl, World.ownsRow_nil _ _ _ _, BW1⟩
  have hz' : (y.code != 0) = false := by simpa using hz
  have HE : Hid (touchP r p move = (tGo p.pits y.pits p.pits.length, 0)) := by unfold Hid touchP; rw [← HCY.out, if_pos hz, HY.out]
  have hlens := doneP_lens (r := r) (p := p) (move := move) (by rw [← HCY.out]; exact hz)
  rw [← HY.out] at hlens
  have hyl : p.pits.length ≤ y.pits.length := by omega
  have hpl := hlens.2
  clear hlens
  have O0 := own_none (w1.alloc (.cells (y.cells ua uc va vc) 69)) (w1.heap.size + 1) (by simp)
  have F3 := (F2.step (below_alloc1 _ (.cells #[] 2))).own O0
  simp only [World.size_alloc] at F3
  have HZ1 := Lib.hid hzw1
  clear hzw1
  have HF3 := Lib.hid F3
  clear hz F2 F3 O0 ho
  go_wp2_with fail
  go_loopw [10, 27] (fun o i wr => ∃ (k : Nat) (acc : List Int) (ta : Option Addr) (tc hi : Nat), i = .int .i64 k ∧ o = .slice ta acc.length tc ∧ k ≤ p.pits.length ∧ acc = tGo p.pits y.pits k ∧ w1.heap.size + 1 ≤ hi ∧
    Fr w wr [⟨w1.heap.size + 1, hi, RowP (w1.heap.size + 1) hi ta tc acc⟩, ⟨w1.heap.size, w1.heap.size + 1, BoxP w1.heap.size (y.cells ua uc va vc).toList⟩, ⟨(w.heap.size + 1 + 1), w1.heap.size, PosP (w.heap.size + 1 + 1) w1.heap.size ⟨y.pits, y.stores, y.player⟩ ua uc va vc⟩, ⟨w.heap.size + 1, w.heap.size + 1 + 1, BoxP (w.heap.size + 1) (p.cells pa pc sa sc).toList⟩, ⟨w.heap.size, w.heap.size + 1, BoxP w.heap.size r.cells.toList⟩]) (fun _ i _ => p.pits.length - (intOf i).toNat)
  case atStart => exact ⟨0, [], _, 0, _, rfl, rfl, Nat.zero_le _, rfl, by omega, HF3.out⟩
  case round =>
    clear HF3
    obtain ⟨k, acc, ta, tc, hi', rfl, rfl, hk, hacc, hlh, F⟩ := hrel
    have HACC := Lib.hid hacc
    clear hacc
    by_cases hkl : k < p.pits.length
    case neg =>
      have hkE : k = p.pits.length := by omega
      have HA : Hid (acc = tGo p.pits y.pits p.pits.length) := by unfold Hid; rw [← hkE]; exact HACC.out
      clear hkE
      go_wp2
      go_ret2
      rw [HE.out]
      have hA := HA.out
      subst hA
      exact ⟨ta, tc, rfl, ownsRow_le (F.at 0 rfl).1 (by have := HZ1.out; omega), F.below⟩
    have hkl2 : k < y.pits.length := by omega
    obtain ⟨xa, hxa⟩ : ∃ x, x = p.pits[k] := ⟨_, rfl⟩
    obtain ⟨xb, hxb⟩ : ∃ x, x = y.pits[k] := ⟨_, rfl⟩
    obtain ⟨pb, po, hpa, hpbl, hpcs⟩ := Ints.open HH.out (by omega)
    have hcp : wr.cell? ⟨pb, po + k, none⟩ = some (.int .i64 xa) := (F.below.cell (show (Addr.mk pb (po + k) none).block < _ from hpbl)).trans (by rw [hxa]; exact hpcs k hkl)
    obtain ⟨ug, hug, hu1, hu2⟩ := own_lt_n (F.at 2 rfl).1.pits (show 0 < y.pits.length by omega)
    have hcy : wr.cell? ⟨ug, k, none⟩ = some (.int .i64 xb) := by
      have h1 := (F.at 2 rfl).1.pits
      rw [hug] at h1
      rw [h1.cellAt k (by show k < y.pits.length * 1; omega), hxb]
      simp [hkl2]
    have x3 : wr.cell? ⟨w1.heap.size, 3, none⟩ = some (.slice ua y.pits.length uc) := F.at 1 rfl 3 _ rfl
    have hki : (k : Int) < (p.pits.length : Int) := by omega
    have hki2 : (k : Int) < (y.pits.length : Int) := by omega
    have e1 : p.pits.getD k 0 = xa := by rw [hxa]; simp [hkl]
    have e2 : y.pits.getD k 0 = xb := by rw [hxb]; simp [hkl2]
    have hal : acc.length ≤ 100 := by rw [HACC.out]; have := tGo_len p.pits y.pits k; omega
    have HAB : Hid (p.pits.getD k 0 = xa ∧ y.pits.getD k 0 = xb) := ⟨e1, e2⟩
    subst hpa
    subst hug
    clear hxa hxb e1 e2 hpcs
    by_cases hx : xb = xa
    · have hx' : (xb != xa) = false := by simpa using hx
      have HT : Hid (tGo p.pits y.pits (k + 1) = tGo p.pits y.pits k) := tGo_same (by rw [HAB.out.1, HAB.out.2, hx])
      clear hx
      go_wp2
      go_roundw
      case rel =>
        first
        | exact ⟨k + 1, acc, ta, tc, hi', by go_num, rfl, by omega, by rw [HT.out]; exact HACC.out, hlh, F⟩
        | ((repeat apply Exists.intro); exact ⟨⟨k + 1, acc, ta, tc, hi', by go_num, rfl, by omega, by rw [HT.out]; exact HACC.out, hlh, F⟩, rfl⟩)
      case measure => (simp [intOf]; omega)
    · have hx' : (xb != xa) = true := by simpa using hx
      have HT : Hid (tGo p.pits y.pits (k + 1) = tGo p.pits y.pits k ++ [(k : Int)]) := tGo_other (by rw [HAB.out.1, HAB.out.2]; exact hx)
      have hown := (F.at 0 rfl).1
      unfold OwnI at hown
      have hsz : w1.heap.size + 1 ≤ wr.heap.size := F.le 1 rfl
      clear hx
      go_wp2_with (at_builtin; refine wpList_append_own2 _ rfl _ _ 24 rfl (w1.heap.size + 1) 2 i0 (.int .i64 0) 1 8 Try.underlying24 hi hz0 hz1 hz2 rfl (by decide) _ _ _ rfl (hown.alloc _) ⟨wr.heap.size, 0, none⟩ 1 1 [.int .i64 (k : Int)] rfl rfl (by intro j u hu; match j, hu with | 0, hu => (simp at hu; subst hu; simp [Addr.add])) (by intro u hu; simp at hu; subst hu; rfl) (by unfold maxLen; omega) (by omega) (by simp; omega) ?_)
      intro ad' c' w4 hown4 hg4 hn4
      have F4 := Lib.hid (Fr.app (ys := [(k : Int)]) F (by have := HZ1.out; omega) (by have := HZ1.out; simp; omega) hg4 (by simpa using hown4) rfl)
      have HS4 : Hid (w1.heap.size + 1 ≤ w4.heap.size) := Nat.le_trans hsz (Nat.le_trans (by simp) hg4.size)
      clear hown4 hg4 hn4 hown F hcp hcy x3
      go_wp2
      go_roundw
      case rel =>
        first
        | exact ⟨k + 1, acc ++ [(k : Int)], ad', c', _, by go_num, by simp, by omega, by rw [HT.out, HACC.out], HS4.out, F4.out⟩
        | ((repeat apply Exists.intro); exact ⟨⟨k + 1, acc ++ [(k : Int)], ad', c', _, by go_num, by simp, by omega, by rw [HT.out, HACC.out], HS4.out, F4.out⟩, rfl⟩)
      case measure => (simp [intOf]; omega)

set_option maxRecDepth 100000 in
set_option maxHeartbeats 8000000 in
theorem sTouchedPits_c (r : R) (p : P) (move : Int) (pa sa : Option Addr) (pc sc : Nat) (w : World) (h : PRow w p pa sa) (m1 : p.pits.length ≤ 16777216) (m2 : p.stores.length ≤ 16777216) :
    Calls Try.prog 32 #[r.val, p.val pa pc sa sc, .int .i64 move] w (IntsRes2 w (touchP r p move)) := by
  obtain ⟨i0, hi, hz0, hz1, hz2⟩ := info_parts infoI
  have F0 := ((Fr.start w).alloc r.cells 30).alloc (p.cells pa pc sa sc) 32
  obtain ⟨c, hcd⟩ : ∃ c, (doneP r p move).code = c := ⟨_, rfl⟩
  have HC := Lib.hid (fun W (H : PRow W p pa sa) => sMoveFault_c r p move pa sa pc sc W H m1 m2)
  rw [hcd] at HC
  have HD := Lib.hid hcd
  have HH := Lib.hid h.pits
  clear hcd
  go_enter Try.func32, Try.ntmps32
  go_wp2_with fail
  refine (HC.out _ (h.below F0.below (Nat.le_refl _))).mono ?_
  rintro e w1 ⟨rfl, hb1⟩
  have F1 := F0.step hb1
  clear hb1 F0 HC
  by_cases hz : c = 0
  case neg =>
    have hz' : (c != 0) = true := by simpa using hz
    have HE : Hid (touchP r p move = ([], c)) := by unfold Hid touchP; rw [HD.out, if_neg hz]
    clear hz
    go_wp2
    go_ret2
    rw [HE.out]
    exact ⟨none, 0, rfl, World.ownsRow_nil _ _ _ _, F1.below⟩
  have hz' : (c != 0) = false := by simpa using hz
  obtain ⟨y, hy⟩ : ∃ y, y = makeP r p move := ⟨_, rfl⟩
  have HY := Lib.hid hy
  have HE : Hid (touchP r p move = (tGo p.pits y.pits p.pits.length, 0)) := by unfold Hid touchP; rw [HD.out, if_pos hz, hy]
  have hlens := doneP_lens (r := r) (p := p) (move := move) (by rw [HD.out]; exact hz)
  rw [← hy] at hlens
  have hyl : p.pits.length ≤ y.pits.length := by omega
  have hpl := hlens.2
  have hr := R.boxc (F1.at 1 rfl)
  have hp : P.At w1 (w.alloc (.cells r.cells 30)).heap.size 0 p pa pc sa sc := ⟨F1.at 0 rfl 0 _ rfl, F1.at 0 rfl 1 _ rfl, F1.at 0 rfl 2 _ rfl⟩
  simp only [World.size_alloc] at hp
  have HM := Lib.hid (l07Make_c _ _ _ _ r p move pa sa pc sc _ hr hp (h.below F1.below (Nat.le_refl _)) m1 m2)
  rw [← hy] at HM
  have hzw1 : w.heap.size + 1 + 1 ≤ w1.heap.size := by have := F1.le 0 rfl; simpa using this
  clear hlens hr hp hy hz h
  go_wp2_with fail
  refine HM.out.mono ?_
  rintro e w2 ⟨ua, uc, va, vc, rfl, ho, hb2⟩
  have hzw2 : w1.heap.size ≤ w2.heap.size := hb2.size
  have F2 := ((F1.step hb2).pos ho).alloc (y.cells ua uc va vc) 69
  have O0 := own_none (w2.alloc (.cells (y.cells ua uc va vc) 69)) (w2.heap.size + 1) (by simp)
  have F3 := (F2.step (below_alloc1 _ (.cells #[] 2))).own O0
  simp only [World.size_alloc] at F3
  have HF3 := Lib.hid F3
  have HZ1 := Lib.hid (⟨hzw1, hzw2⟩ : _ ∧ _)
  clear F1 F2 F3 O0 ho hb2 HM hzw1 hzw2
  go_wp2_with fail
  go_loopw [11, 12] (fun o i wr => ∃ (k : Nat) (acc : List Int) (ta : Option Addr) (tc hi : Nat), i = .int .i64 k ∧ o = .slice ta acc.length tc ∧ k ≤ p.pits.length ∧ acc = tGo p.pits y.pits k ∧ w2.heap.size + 1 ≤ hi ∧
    Fr w wr [⟨w2.heap.size + 1, hi, RowP (w2.heap.size + 1) hi ta tc acc⟩, ⟨w2.heap.size, w2.heap.size + 1, BoxP w2.heap.size (y.cells ua uc va vc).toList⟩, ⟨w1.heap.size, w2.heap.size, PosP w1.heap.size w2.heap.size ⟨y.pits, y.stores, y.player⟩ ua uc va vc⟩, ⟨w.heap.size + 1, w.heap.size + 1 + 1, BoxP (w.heap.size + 1) (p.cells pa pc sa sc).toList⟩, ⟨w.heap.size, w.heap.size + 1, BoxP w.heap.size r.cells.toList⟩]) (fun _ i _ => p.pits.length - (intOf i).toNat)
  case atStart => exact ⟨0, [], _, 0, _, rfl, rfl, Nat.zero_le _, rfl, by omega, HF3.out⟩
  case round =>
    clear HF3
    obtain ⟨k, acc, ta, tc, hi', rfl, rfl, hk, hacc, hlh, F⟩ := hrel
    have HACC := Lib.hid hacc
    have x0 : wr.cell? ⟨w.heap.size + 1, 0, none⟩ = some (.slice pa p.pits.length pc) := F.at 3 rfl 0 _ rfl
    clear hacc
    by_cases hkl : k < p.pits.length
    case neg =>
      have hkE : k = p.pits.length := by omega
      have HA : Hid (acc = tGo p.pits y.pits p.pits.length) := by unfold Hid; rw [← hkE]; exact HACC.out
      clear hkE
      go_wp2
      go_ret2
      rw [HE.out]
      have hA := HA.out
      subst hA
      exact ⟨ta, tc, rfl, ownsRow_le (F.at 0 rfl).1 (by have := HZ1.out; omega), F.below⟩
    have hkl2 : k < y.pits.length := by omega
    obtain ⟨xa, hxa⟩ : ∃ x, x = p.pits[k] := ⟨_, rfl⟩
    obtain ⟨xb, hxb⟩ : ∃ x, x = y.pits[k] := ⟨_, rfl⟩
    obtain ⟨pb, po, hpa, hpbl, hpcs⟩ := Ints.open HH.out (by omega)
    have hcp : wr.cell? ⟨pb, po + k, none⟩ = some (.int .i64 xa) := (F.below.cell (show (Addr.mk pb (po + k) none).block < _ from hpbl)).trans (by rw [hxa]; exact hpcs k hkl)
    obtain ⟨ug, hug, hu1, hu2⟩ := own_lt_n (F.at 2 rfl).1.pits (show 0 < y.pits.length by omega)
    have hcy : wr.cell? ⟨ug, k, none⟩ = some (.int .i64 xb) := by
      have h1 := (F.at 2 rfl).1.pits
      rw [hug] at h1
      rw [h1.cellAt k (by show k < y.pits.length * 1; omega), hxb]
      simp [hkl2]
    have x3 : wr.cell? ⟨w2.heap.size, 3, none⟩ = some (.slice ua y.pits.length uc) := F.at 1 rfl 3 _ rfl
    have hki : (k : Int) < (p.pits.length : Int) := by omega
    have hki2 : (k : Int) < (y.pits.length : Int) := by omega
    have e1 : p.pits.getD k 0 = xa := by rw [hxa]; simp [hkl]
    have e2 : y.pits.getD k 0 = xb := by rw [hxb]; simp [hkl2]
    have hal : acc.length ≤ 100 := by rw [HACC.out]; have := tGo_len p.pits y.pits k; omega
    have HAB : Hid (p.pits.getD k 0 = xa ∧ y.pits.getD k 0 = xb) := ⟨e1, e2⟩
    subst hpa
    subst hug
    clear hxa hxb e1 e2 hpcs
    by_cases hx : xb = xa
    · have hx' : (xb != xa) = false := by simpa using hx
      have HT : Hid (tGo p.pits y.pits (k + 1) = tGo p.pits y.pits k) := tGo_same (by rw [HAB.out.1, HAB.out.2, hx])
      have HFD := Lib.hid (fun m => F.drawn m)
      clear hx
      go_wp2
      go_quiet (fail)
      go_wp2
      go_roundw
      case rel =>
        first
        | exact ⟨k + 1, acc, ta, tc, hi', by go_num, rfl, by omega, by rw [HT.out]; exact HACC.out, hlh, HFD.out _⟩
        | ((repeat apply Exists.intro); exact ⟨⟨k + 1, acc, ta, tc, hi', by go_num, rfl, by omega, by rw [HT.out]; exact HACC.out, hlh, HFD.out _⟩, rfl⟩)
      case measure => (simp [intOf]; omega)
    · have hx' : (xb != xa) = true := by simpa using hx
      have HT : Hid (tGo p.pits y.pits (k + 1) = tGo p.pits y.pits k ++ [(k : Int)]) := tGo_other (by rw [HAB.out.1, HAB.out.2]; exact hx)
      have hsz : w2.heap.size + 1 ≤ wr.heap.size := F.le 1 rfl
      have HFD := Lib.hid (fun m => F.drawn m)
      clear hx
      go_wp2
      go_quiet (fail)
      have FD := HFD.out nq
      clear F HFD hcp hcy x3 x0 hsz
      generalize wr.drewN nq = wd at *
      have hown := (FD.at 0 rfl).1
      unfold OwnI at hown
      have hsz : w2.heap.size + 1 ≤ wd.heap.size := FD.le 1 rfl
      go_wp2_with (at_builtin; refine wpList_append_own2 _ rfl _ _ 24 rfl (w2.heap.size + 1) 2 i0 (.int .i64 0) 1 8 Try.underlying24 hi hz0 hz1 hz2 rfl (by decide) _ _ _ rfl (hown.alloc _) ⟨wd.heap.size, 0, none⟩ 1 1 [.int .i64 (k : Int)] rfl rfl (by intro j u hu; match j, hu with | 0, hu => (simp at hu; subst hu; simp [Addr.add])) (by intro u hu; simp at hu; subst hu; rfl) (by unfold maxLen; omega) (by omega) (by simp; omega) ?_)
      intro ad' c' w4 hown4 hg4 hn4
      have F4 := Lib.hid (Fr.app (ys := [(k : Int)]) FD (by have := HZ1.out; omega) (by have := HZ1.out; simp; omega) hg4 (by simpa using hown4) rfl)
      have HS4 : Hid (w2.heap.size + 1 ≤ w4.heap.size) := Nat.le_trans hsz (Nat.le_trans (by simp) hg4.size)
      clear hown4 hg4 hn4 hown FD
      go_wp2
      go_roundw
      case rel =>
        first
        | exact ⟨k + 1, acc ++ [(k : Int)], ad', c', _, by go_num, by simp, by omega, by rw [HT.out, HACC.out], HS4.out, F4.out⟩
        | ((repeat apply Exists.intro); exact ⟨⟨k + 1, acc ++ [(k : Int)], ad', c', _, by go_num, by simp, by omega, by rw [HT.out, HACC.out], HS4.out, F4.out⟩, rfl⟩)
      case measure => (simp [intOf]; omega)

end Go.Proofs.Ytmadcifcbckcnaa
