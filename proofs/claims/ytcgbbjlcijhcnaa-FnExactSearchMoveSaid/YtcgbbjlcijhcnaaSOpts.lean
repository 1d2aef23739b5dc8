/- SOpts: the options of a search, and the search for a move: the reference's functions. Each contract holds for every argument, under the premises that it states. -/
import Derived.Test.YtcgbbjlcijhcnaaOpts
import Derived.Test.YtcgbbjlcijhcnaaSrS
namespace Go.Proofs.Ytcgbbjlcijhcnaa
set_option linter.unusedSimpArgs false
set_option linter.unusedVariables false
set_option linter.unnecessarySimpa false
open Go.RowKit Go.ChangeShapes Go.WideShapes Go.ChangeAt Go.Joins

theorem szGo_snoc (f : P → Nat) (x : Mk) : ∀ l : List Mk, szGo f (l ++ [x]) = szGo f l + f (nxt x)
  | [] => by simp [szGo]
  | y :: l => by simp only [List.cons_append, szGo, szGo_snoc f x l]; omega
theorem szGo_app (f : P → Nat) (k : List Mk) : ∀ l : List Mk, szGo f l ≤ szGo f (l ++ k)
  | [] => Nat.zero_le _
  | y :: l => by simp only [List.cons_append, szGo]; have := szGo_app f k l; omega
theorem szGo_take (f : P → Nat) (l : List Mk) (k : Nat) : szGo f (l.take k) ≤ szGo f l := by
  have h := szGo_app f (l.drop k) (l.take k)
  rw [List.take_append_drop] at h
  exact h
def soptsP (r : R) (p : P) (d : Int) : List OP × Int := if ocodeP r p d = 0 then (optsP r p (d.toNat - 1), 0) else ([], ocodeP r p d)
theorem smoveP_opts (r : R) (p : P) (d : Int) : smoveP r p d = if (soptsP r p d).2 = 0 then (match (soptsP r p d).1 with | [] => (0, 0, 3) | o :: l => ((bestGo l o).1, (bestGo l o).2, 0)) else (0, 0, (soptsP r p d).2) := by
  unfold smoveP soptsP
  by_cases h : ocodeP r p d = 0
  · rw [if_pos h, if_pos h, if_pos rfl]
    all_goals (cases optsP r p (d.toNat - 1) <;> rfl)
  · rw [if_neg h, if_neg h, if_neg h]
theorem ocodeP_pre {r : R} {p : P} {d : Int} (h : ¬ preC r p d = 0) : ocodeP r p d = preC r p d := by
  have h1 := srchC_pre h
  unfold ocodeP
  split
  · rename_i hh
    obtain ⟨a, rfl⟩ := hh
    unfold preC at h
    rw [if_pos a, if_pos (by omega)] at h
    exact absurd rfl h
  · exact h1
theorem ocodeP_zero' {r : R} {p : P} {d : Int} (h : preC r p d = 0) (hd : d = 0) : ocodeP r p d = 2 := by
  unfold ocodeP
  rw [if_pos ⟨(preC_zero h).1, hd⟩]
theorem ocodeP_ask {r : R} {p : P} {d : Int} (hd : ¬ d = 0) : ocodeP r p d = (saskP r p d).2.2 := by
  unfold ocodeP saskP
  rw [if_neg (fun e => hd e.2)]
  by_cases h : srchC r p d = 0
  · rw [if_pos h, h]
  · rw [if_neg h]

def OptRes2 (w : World) (y : List OP × Int) (e : Ending) (w' : World) : Prop := ∃ (ad : Option Addr) (c : Nat), e = .returned (.tuple #[.slice ad y.1.length c, .int .i64 y.2]) ∧ OptOwn w' w.heap.size ad c y.1 ∧ Below w.heap.size w w'
/-- a round over the results -/
structure SgSt (w w0 wr : World) (S rb ro : Nat) (r : R) (D : Nat) (l : List (Mk × MA)) (ad : Option Addr) (c g k : Nat) (ta : Option Addr) (tc : Nat) (acc : List OP) (s : Int) : Prop where
  kl : k ≤ l.length
  ac : acc = (l.take k).map (fun x => optP r D x.1)
  sz : s = (szGo (sizeT r D) ((l.take k).map Prod.fst) : Nat)
  out : OptOwn wr (S + 1) ta tc acc
  no : ∀ b, (Value.slice ta acc.length tc).ownBlock = some b → ¬ b = g ∧ ∀ x ∈ l, ¬ (Value.slice x.2.pa x.1.pits.length x.2.pc).ownBlock = some b ∧ ¬ (Value.slice x.2.sa x.1.stores.length x.2.sc).ownBlock = some b
  own : MksOwn wr (S + 1) ad c l
  box : BoxP g (mcells l) wr
  srb : SrB wr S rb ro s
  below : Below w.heap.size w wr
  grown : w0.heap.size ≤ wr.heap.size
set_option maxRecDepth 100000 in
set_option maxHeartbeats 16000000 in
theorem l15Options_c (rb ro pb po : Nat) (r : R) (p : P) (d : Int) (pa sa : Option Addr) (pc sc : Nat) (w : World) (hr : R.At w rb ro r) (hp : P.At w pb po p pa pc sa sc) (h : PRow w p pa sa) (m1 : p.pits.length ≤ 16777216) (m2 : p.stores.length ≤ 16777216) :
    Calls Try.prog 69 #[.pointer (some ⟨rb, ro, none⟩), .pointer (some ⟨pb, po, none⟩), .int .i64 d] w (OptRes2 w (soptsP r p d)) := by
  obtain ⟨i0, hi, hz0, hz1, hz2⟩ := info_parts2 infoO
  have hrb : rb < w.heap.size := World.block_lt_of_cell? w _ hr.c0
  have hpb : pb < w.heap.size := World.block_lt_of_cell? w _ hp.c0
  have HC := l15Code_c rb ro pb po r p d pa sa pc sc w hr hp h m1 m2
  have HA := fun m => l15Ask_c rb ro pb po r p d pa sa pc sc (w.drewN m) (hr.draw m) (hp.draw m) (h.below (below_draws w.heap.size w m) (Nat.le_refl _)) m1 m2
  obtain ⟨c0, hc0d⟩ : ∃ c, c = preC r p d := ⟨_, rfl⟩
  rw [← hc0d] at HC
  have HC := Lib.hid HC
  obtain ⟨y, hy⟩ : ∃ y, y = soptsP r p d := ⟨_, rfl⟩
  rw [← hy]
  obtain ⟨x, hx⟩ : ∃ x, x = saskP r p d := ⟨_, rfl⟩
  rw [← hx] at HA
  have HA := Lib.hid HA
  have HYc : Hid (¬ ocodeP r p d = 0 → y = ([], ocodeP r p d)) := fun e => by rw [hy, soptsP, if_neg e]
  by_cases hc0 : c0 = 0
  case neg =>
    have hz' : (c0 != 0) = true := by simpa using hc0
    have hz2' : (c0 == 0) = false := by simpa using hc0
    have hpre : ocodeP r p d = c0 := by rw [hc0d]; exact ocodeP_pre (by rw [← hc0d]; exact hc0)
    have HE : Hid (y = ([], c0)) := by unfold Hid; rw [HYc.out (by rw [hpre]; exact hc0), hpre]
    clear hpre hc0d hy hx hc0 HA HYc hr hp h
    go_enter Try.func69, Try.ntmps69
    go_wp2_with fail
    refine HC.out.mono ?_
    rintro e w1 ⟨rfl, m, rfl⟩
    go_wp2
    go_ret2
    rw [HE.out]
    exact ⟨none, 0, rfl, World.ownsRow_nil _ _ _ _, below_draws _ _ _⟩
  have hz2' : (c0 == 0) = true := by simpa using hc0
  by_cases hd : d = 0
  · have hd0 : (d == 0) = true := by simpa using hd
    have HE : Hid (y = ([], 2)) := by
      have h1 := ocodeP_zero' (r := r) (p := p) (d := d) (by rw [← hc0d]; exact hc0) hd
      unfold Hid; rw [HYc.out (by rw [h1]; decide), h1]
    clear hc0d hy hx hc0 HA HYc hr hp h hd
    go_enter Try.func69, Try.ntmps69
    go_wp2_with fail
    refine HC.out.mono ?_
    rintro e w1 ⟨rfl, m, rfl⟩
    go_wp2
    go_ret2
    rw [HE.out]
    exact ⟨none, 0, rfl, World.ownsRow_nil _ _ _ _, below_draws _ _ _⟩
  have hd0 : (d == 0) = false := by simpa using hd
  have hask := ocodeP_ask (r := r) (p := p) hd
  rw [← hx] at hask
  obtain ⟨x0, x1, x2⟩ := x
  by_cases hx0 : x2 = 0
  case neg =>
    have hz3 : (x2 != 0) = true := by simpa using hx0
    have HE : Hid (y = ([], x2)) := by unfold Hid; rw [HYc.out (by rw [hask]; exact hx0), hask]
    clear hc0d hy hx hc0 HYc hr hp h hd hx0 hask
    go_enter Try.func69, Try.ntmps69
    go_wp2_with fail
    refine HC.out.mono ?_
    rintro e w1 ⟨rfl, m, rfl⟩
    have HAm := Lib.hid (HA.out m)
    clear HA HC
    go_wp2_with fail
    refine HAm.out.mono ?_
    rintro e w2 ⟨rfl, hb2⟩
    have HB2 := Lib.hid (below_next (below_draws w.heap.size w m) hb2)
    clear hb2 HAm
    go_wp2
    go_ret2
    rw [HE.out]
    exact ⟨none, 0, rfl, World.ownsRow_nil _ _ _ _, HB2.out⟩
  have hz3 : (x2 != 0) = false := by simpa using hx0
  obtain ⟨hok, hsc, D, hdD, hD, hsz⟩ := ocodeP_zero (r := r) (p := p) (d := d) (by rw [hask]; exact hx0)
  have HY : Hid (y = (optsP r p D, 0)) := by
    unfold Hid
    rw [hy, soptsP, if_pos (by rw [hask]; exact hx0), hdD, show ((D : Int) + 1).toNat - 1 = D by omega]
  have HSZ : Hid (szGo (sizeT r D) (allP r p) ≤ 2999) := by
    have h1 : sizeT r (D + 1) p = 1 + szGo (sizeT r D) (allP r p) := rfl
    unfold Hid; omega
  have HLN := Lib.hid (allP_len8 hok)
  have HV := Lib.hid (fun x (hx : x ∈ allP r p) => allP_valid hx)
  have HPS := Lib.hid (fun x (hx : x ∈ allP r p) => allP_pos hx)
  have HIH := Lib.hid (sValue_c r D (by omega))
  have HBZ := Lib.hid (Bz_le D (by omega))
  have HDI := Lib.hid hdD
  have HAL : Hid (∀ W, Below w.heap.size w W → Calls Try.prog 59 #[.pointer (some ⟨rb, ro, none⟩), .pointer (some ⟨pb, po, none⟩)] W (MksRes W (allP r p))) := fun W hW =>
    l07All_c rb ro pb po r p hok pa sa pc sc W (hr.below hW hrb) (hp.below hW hpb) (h.below hW (Nat.le_refl _)) m1 m2
  have HRW := Lib.hid hr
  clear hc0d hy hx hc0 HYc hr hp h hd hx0 hask hdD hok hsc hsz
  go_enter Try.func69, Try.ntmps69
  go_wp2_with fail
  refine HC.out.mono ?_
  rintro e w1 ⟨rfl, m, rfl⟩
  have HAm := Lib.hid (HA.out m)
  clear HA HC
  go_wp2_with fail
  refine HAm.out.mono ?_
  rintro e w2 ⟨rfl, hb2⟩
  have HB2 := Lib.hid (below_next (below_draws w.heap.size w m) hb2)
  have hs2 : w.heap.size ≤ w2.heap.size := HB2.out.size
  clear hb2 HAm
  have F3 := ((Fr.from HB2.out).allocF #[.pointer (some ⟨rb, ro, none⟩), .int .i64 0] 110).step (below_alloc1 _ (.cells #[] 81))
  have O0 : OptOwn ((w2.alloc (.cells #[.pointer (some ⟨rb, ro, none⟩), .int .i64 0] 110)).alloc (.cells #[] 81)) (w2.heap.size + 1) (some ⟨w2.heap.size + 1, 0, none⟩) 0 [] := by
    have := World.ownsRow_lit (base := w2.heap.size + 1) (e := 81) (size := 2) (w2.alloc (.cells #[.pointer (some ⟨rb, ro, none⟩), .int .i64 0] 110)) #[] 0 (by simp) (Nat.zero_le _) rfl
    simp only [World.size_alloc] at this
    exact this
  have HO0 := Lib.hid O0
  have HF3 := Lib.hid F3
  clear F3 O0
  go_wp2_with fail
  refine (HAL.out _ HF3.out.below).mono ?_
  rintro e w4 ⟨l, ad, c, hl, rfl, ho, hb4⟩
  have HL := Lib.hid hl
  have hs4 := hb4.size
  simp only [World.size_alloc] at hs4
  have hll : l.length ≤ 8 := by
    have h1 := HLN.out
    rw [← HL.out, List.length_map] at h1
    exact h1
  obtain ⟨g, hbox, hg0, hgd⟩ := mks_box ho hb4.size
  have HGD := Lib.hid hgd
  simp only [World.size_alloc] at hg0
  have F4 := HF3.out.step hb4
  have hst0 : Hid (SgSt w w2 w4 w2.heap.size rb ro r D l ad c g 0 (some ⟨w2.heap.size + 1, 0, none⟩) 0 [] 0) := by
    obtain ⟨bx, bf⟩ := F4.at 0 rfl
    refine ⟨Nat.zero_le _, rfl, rfl, own_below HO0.out hb4 (Nat.le_refl _), fun b hb => ?_, ho.le (by first | (simp; done) | (simp; omega)), hbox, ⟨bx 0 _ rfl, bx 1 _ rfl, bf⟩, F4.below, by omega⟩
    have hb' : w2.heap.size + 1 = b := by simpa [Value.ownBlock] using hb
    refine ⟨by omega, fun x hx => ⟨fun e => ?_, fun e => ?_⟩⟩
    · have := ((ho.items x hx).1.pits.lt b e).1
      simp only [World.size_alloc] at this
      omega
    · have := ((ho.items x hx).1.stores.lt b e).1
      simp only [World.size_alloc] at this
      omega
  have HVX := Lib.hid (fun x (hx : x ∈ l) => HV.out x.1 (by rw [← HL.out]; exact List.mem_map_of_mem hx))
  have HPX := Lib.hid (fun x (hx : x ∈ l) => HPS.out x.1 (by rw [← HL.out]; exact List.mem_map_of_mem hx))
  have HYE : Hid (y = (l.map (fun x => optP r D x.1), 0)) := by
    unfold Hid
    rw [HY.out, optsP, ← HL.out, List.map_map]
    rfl
  have HSZ2 : Hid (szGo (sizeT r D) (l.map Prod.fst) ≤ 2999) := by unfold Hid; rw [HL.out]; exact HSZ.out
  obtain ⟨S, hS⟩ : ∃ S, S = w2.heap.size := ⟨_, rfl⟩
  have HSE := Lib.hid hS
  rw [← hS] at hst0 hg0
  clear hS hb4 hl ho HF3 F4 hbox hgd HV HPS HO0 HY HSZ
  go_wp2_with fail
  simp only [← HSE.out]
  go_loopw [10, 12] (fun ss i wr => ∃ (k : Nat) (ta : Option Addr) (tc : Nat) (acc : List OP) (s : Int), i = .int .i64 k ∧ ss = .slice ta acc.length tc ∧ SgSt w w2 wr S rb ro r D l ad c g k ta tc acc s) (fun _ i _ => l.length - (intOf i).toNat)
  case atStart => exact ⟨0, _, 0, [], 0, rfl, rfl, hst0.out⟩
  case round =>
    clear hst0
    obtain ⟨k, ta, tc, acc, s, rfl, rfl, hst⟩ := hrel
    have HST := Lib.hid hst
    have hkl := hst.kl
    clear hst
    have hSw : w.heap.size ≤ S := by have := HSE.out; omega
    by_cases hk : k < l.length
    case neg =>
      have HA : Hid (y = (acc, 0)) := by
        unfold Hid
        rw [HYE.out, HST.out.ac, List.take_of_length_le (by omega)]
      go_wp2
      go_ret2
      rw [HA.out]
      exact ⟨ta, tc, rfl, ownsRow_le HST.out.out (by omega), HST.out.below⟩
    obtain ⟨x, hx⟩ : ∃ x, l[k]? = some x := ⟨l[k], by simp [hk]⟩
    have HX := Lib.hid hx
    obtain ⟨q0, q1, q2, q3, q4, q5⟩ := box_cells HST.out.box hx
    obtain rfl := HGD.out (by omega)
    have hki : (k : Int) < (l.length : Int) := by omega
    have hgl : g < wr.heap.size := World.block_lt_of_cell? wr _ q0
    have hxm : x ∈ l := List.mem_of_getElem? hx
    have hal : acc.length ≤ 100 := by rw [HST.out.ac]; simp; omega
    have hVN := HVX.out x hxm
    obtain ⟨hp0, hp1, hp2⟩ := HPX.out x hxm
    have hrS : ¬ rb = S := by omega
    have hgS : ¬ g = S := by omega
    have BD : Below wr.heap.size wr wr.drew := (Below.refl _ _).drew
    obtain ⟨hn1, hn2⟩ := mks_item (HST.out.own.below BD (Nat.le_refl _)) (S := S) (by omega) hxm
    have hsz := HST.out.sz
    have hstep : szGo (sizeT r D) ((l.take (k + 1)).map Prod.fst) = szGo (sizeT r D) ((l.take k).map Prod.fst) + sizeT r D (nxt x.1) := by
      rw [List.take_add_one, HX.out, List.map_append]
      exact szGo_snoc (sizeT r D) x.1 _
    have hle := szGo_take (sizeT r D) (l.map Prod.fst) (k + 1)
    rw [← List.map_take, hstep] at hle
    have hmx := HSZ2.out
    have hbz := HBZ.out
    have hs0 : 0 ≤ s := by omega
    have hS3 : s ≤ 3000 := by omega
    have hvs := (vS_eq r D (nxt x.1) s hs0).1 (by omega)
    have HC := Lib.hid (sOption_c r D (by omega) HIH.out x.1 hVN hp0 hp2 d HDI.out S rb ro g (k * 6) x.2 wr.drew s (HST.out.srb.below BD) (HRW.out.below (HST.out.below.trans (BD.mono HST.out.below.size)) hrb) hrS hgS q1 q2 ⟨q3, q4, q5⟩ hn1 hn2 hs0 (by omega))
    rw [hvs] at HC
    have HOX : Hid (optP r D x.1 = (x.1.move, moveV x.1 (valueP r D (nxt x.1)))) := rfl
    have HSN : Hid (s + (sizeT r D (nxt x.1) : Int) = (szGo (sizeT r D) ((l.take (k + 1)).map Prod.fst) : Nat)) := by unfold Hid; rw [hstep]; omega
    obtain ⟨n, hn⟩ : ∃ n, n = s + (sizeT r D (nxt x.1) : Int) := ⟨_, rfl⟩
    rw [← hn] at HC HSN
    obtain ⟨u, hu⟩ : ∃ u, u = moveV x.1 (valueP r D (nxt x.1)) := ⟨_, rfl⟩
    rw [← hu] at HOX HC
    have HNO := Lib.hid HST.out.no
    have HOT := Lib.hid HST.out.out
    have hgr : w2.heap.size ≤ wr.heap.size := HST.out.grown
    clear hx hu hn hvs hbz hmx hle hstep hsz hVN hp0 hp1 hp2 hn1 hn2 q1 q2 q3 q4 q5 hS3 hs0
    go_wp2_with fail
    refine heldH (S := fun W => W.cell? ⟨g, k * 6, none⟩ = some (.int .i64 x.1.move)) (n := 16) (listed := #[false, false, false, false, false, false, false, false, false, false, false, false, false, false, false, false]) (by kernel_rfl) (by rfl) (by rfl) ?_ (fun hHeld => ?_)
    (focus ((try dsimp only); (first | done | ((first | exact hcD | exact hcC | exact hcB | exact q0); done))))
    (first | ((refine takeH (i := 0) (v := ?_) (by decide +kernel) (by decide +kernel) (by kernel_rfl) (by rfl) (by exact fun _ _ _ h => h) (by rfl) ?_ (by assumption) ?_); rotate_left; (focus (intro w hSw; (try dsimp only at hSw); go_simp; (try with_reducible rfl); done)); (try simp only [Act.put, List.setIfInBounds_toArray, List.set_cons_zero, List.set_cons_succ])) | ((refine skipH (i := 0) (by decide +kernel) (by decide +kernel) (by kernel_rfl) (by rfl) (by exact fun _ _ _ h => h) (by rfl) (by assumption) ?_); (try simp only [Act.put, List.setIfInBounds_toArray, List.set_cons_zero, List.set_cons_succ])))
    (first | ((refine takeH (i := 1) (v := ?_) (by decide +kernel) (by decide +kernel) (by kernel_rfl) (by rfl) (by exact fun _ _ _ h => h) (by rfl) ?_ (by assumption) ?_); rotate_left; (focus (intro w hSw; (try dsimp only at hSw); go_simp; (try with_reducible rfl); done)); (try simp only [Act.put, List.setIfInBounds_toArray, List.set_cons_zero, List.set_cons_succ])) | ((refine skipH (i := 1) (by decide +kernel) (by decide +kernel) (by kernel_rfl) (by rfl) (by exact fun _ _ _ h => h) (by rfl) (by assumption) ?_); (try simp only [Act.put, List.setIfInBounds_toArray, List.set_cons_zero, List.set_cons_succ])))
    (first | ((refine takeH (i := 2) (v := ?_) (by decide +kernel) (by decide +kernel) (by kernel_rfl) (by rfl) (by exact fun _ _ _ h => h) (by rfl) ?_ (by assumption) ?_); rotate_left; (focus (intro w hSw; (try dsimp only at hSw); go_simp; (try with_reducible rfl); done)); (try simp only [Act.put, List.setIfInBounds_toArray, List.set_cons_zero, List.set_cons_succ])) | ((refine skipH (i := 2) (by decide +kernel) (by decide +kernel) (by kernel_rfl) (by rfl) (by exact fun _ _ _ h => h) (by rfl) (by assumption) ?_); (try simp only [Act.put, List.setIfInBounds_toArray, List.set_cons_zero, List.set_cons_succ])))
    (first | ((refine takeH (i := 3) (v := ?_) (by decide +kernel) (by decide +kernel) (by kernel_rfl) (by rfl) (by exact fun _ _ _ h => h) (by rfl) ?_ (by assumption) ?_); rotate_left; (focus (intro w hSw; (try dsimp only at hSw); go_simp; (try with_reducible rfl); done)); (try simp only [Act.put, List.setIfInBounds_toArray, List.set_cons_zero, List.set_cons_succ])) | ((refine skipH (i := 3) (by decide +kernel) (by decide +kernel) (by kernel_rfl) (by rfl) (by exact fun _ _ _ h => h) (by rfl) (by assumption) ?_); (try simp only [Act.put, List.setIfInBounds_toArray, List.set_cons_zero, List.set_cons_succ])))
    (first | ((refine takeH (i := 4) (v := ?_) (by decide +kernel) (by decide +kernel) (by kernel_rfl) (by rfl) (by exact fun _ _ _ h => h) (by rfl) ?_ (by assumption) ?_); rotate_left; (focus (intro w hSw; (try dsimp only at hSw); go_simp; (try with_reducible rfl); done)); (try simp only [Act.put, List.setIfInBounds_toArray, List.set_cons_zero, List.set_cons_succ])) | ((refine skipH (i := 4) (by decide +kernel) (by decide +kernel) (by kernel_rfl) (by rfl) (by exact fun _ _ _ h => h) (by rfl) (by assumption) ?_); (try simp only [Act.put, List.setIfInBounds_toArray, List.set_cons_zero, List.set_cons_succ])))
    (first | ((refine takeH (i := 5) (v := ?_) (by decide +kernel) (by decide +kernel) (by kernel_rfl) (by rfl) (by exact fun _ _ _ h => h) (by rfl) ?_ (by assumption) ?_); rotate_left; (focus (intro w hSw; (try dsimp only at hSw); go_simp; (try with_reducible rfl); done)); (try simp only [Act.put, List.setIfInBounds_toArray, List.set_cons_zero, List.set_cons_succ])) | ((refine skipH (i := 5) (by decide +kernel) (by decide +kernel) (by kernel_rfl) (by rfl) (by exact fun _ _ _ h => h) (by rfl) (by assumption) ?_); (try simp only [Act.put, List.setIfInBounds_toArray, List.set_cons_zero, List.set_cons_succ])))
    (first | ((refine takeH (i := 6) (v := ?_) (by decide +kernel) (by decide +kernel) (by kernel_rfl) (by rfl) (by exact fun _ _ _ h => h) (by rfl) ?_ (by assumption) ?_); rotate_left; (focus (intro w hSw; (try dsimp only at hSw); go_simp; (try with_reducible rfl); done)); (try simp only [Act.put, List.setIfInBounds_toArray, List.set_cons_zero, List.set_cons_succ])) | ((refine skipH (i := 6) (by decide +kernel) (by decide +kernel) (by kernel_rfl) (by rfl) (by exact fun _ _ _ h => h) (by rfl) (by assumption) ?_); (try simp only [Act.put, List.setIfInBounds_toArray, List.set_cons_zero, List.set_cons_succ])))
    (first | ((refine takeH (i := 7) (v := ?_) (by decide +kernel) (by decide +kernel) (by kernel_rfl) (by rfl) (by exact fun _ _ _ h => h) (by rfl) ?_ (by assumption) ?_); rotate_left; (focus (intro w hSw; (try dsimp only at hSw); go_simp; (try with_reducible rfl); done)); (try simp only [Act.put, List.setIfInBounds_toArray, List.set_cons_zero, List.set_cons_succ])) | ((refine skipH (i := 7) (by decide +kernel) (by decide +kernel) (by kernel_rfl) (by rfl) (by exact fun _ _ _ h => h) (by rfl) (by assumption) ?_); (try simp only [Act.put, List.setIfInBounds_toArray, List.set_cons_zero, List.set_cons_succ])))
    (first | ((refine takeH (i := 8) (v := ?_) (by decide +kernel) (by decide +kernel) (by kernel_rfl) (by rfl) (by exact fun _ _ _ h => h) (by rfl) ?_ (by assumption) ?_); rotate_left; (focus (intro w hSw; (try dsimp only at hSw); go_simp; (try with_reducible rfl); done)); (try simp only [Act.put, List.setIfInBounds_toArray, List.set_cons_zero, List.set_cons_succ])) | ((refine skipH (i := 8) (by decide +kernel) (by decide +kernel) (by kernel_rfl) (by rfl) (by exact fun _ _ _ h => h) (by rfl) (by assumption) ?_); (try simp only [Act.put, List.setIfInBounds_toArray, List.set_cons_zero, List.set_cons_succ])))
    (first | ((refine takeH (i := 9) (v := ?_) (by decide +kernel) (by decide +kernel) (by kernel_rfl) (by rfl) (by exact fun _ _ _ h => h) (by rfl) ?_ (by assumption) ?_); rotate_left; (focus (intro w hSw; (try dsimp only at hSw); go_simp; (try with_reducible rfl); done)); (try simp only [Act.put, List.setIfInBounds_toArray, List.set_cons_zero, List.set_cons_succ])) | ((refine skipH (i := 9) (by decide +kernel) (by decide +kernel) (by kernel_rfl) (by rfl) (by exact fun _ _ _ h => h) (by rfl) (by assumption) ?_); (try simp only [Act.put, List.setIfInBounds_toArray, List.set_cons_zero, List.set_cons_succ])))
    (first | ((refine takeH (i := 10) (v := ?_) (by decide +kernel) (by decide +kernel) (by kernel_rfl) (by rfl) (by exact fun _ _ _ h => h) (by rfl) ?_ (by assumption) ?_); rotate_left; (focus (intro w hSw; (try dsimp only at hSw); go_simp; (try with_reducible rfl); done)); (try simp only [Act.put, List.setIfInBounds_toArray, List.set_cons_zero, List.set_cons_succ])) | ((refine skipH (i := 10) (by decide +kernel) (by decide +kernel) (by kernel_rfl) (by rfl) (by exact fun _ _ _ h => h) (by rfl) (by assumption) ?_); (try simp only [Act.put, List.setIfInBounds_toArray, List.set_cons_zero, List.set_cons_succ])))
    refine nextH (i := 11) (by decide +kernel) (by rfl) (by rfl) (fun K hK => ?_)
    (first | ((refine wp_append_lies _ _ _ 77 rfl (S + 1) 81 i0 _ 2 16 Try.underlying77 hi hz0 hz1 hz2 rfl (by decide) _ _ _ rfl HOT3.out.1 ⟨w5.heap.size, 0, none⟩ 1 1 [.int .i64 x.1.move, .int .i64 u] rfl rfl (by intro j z hz; match j, hz with | 0, hz | 1, hz => (simp at hz; subst hz; simp [Addr.add])) (by intro z hz; simp at hz; rcases hz with rfl | rfl <;> rfl) (by decide) (by unfold maxLen; omega) (by omega) (by have := HOT3.out.2.1; simp; omega) _ rfl ?_); (intro gn cap w6 hown6 hg6 hat6 hlt6); (have hcD : w6.cell? ⟨g, k * 6, none⟩ = some (.int .i64 x.1.move) := (hg6.cell_far ⟨g, k * 6, none⟩ (by have := HOT3.out.2.1; simp; omega) (fun e => (HNO.out g e.symm).1 rfl)).trans hcC)) | (go_simp; (first | (go_at_call 100; (refine HC.out.mono ?_); (rintro e w5 ⟨rfl, hB5, hC5⟩); (have hcB : w5.cell? ⟨g, k * 6, none⟩ = some (.int .i64 x.1.move) := hC5.cell (w := wr.drew) q0 (by omega))) | ((have hwz : wr.heap.size ≤ w5.heap.size := hC5.size); (have hcC : (w5.alloc (.cells #[.int .i64 x.1.move, .int .i64 u] 81)).cell? ⟨g, k * 6, none⟩ = some (.int .i64 x.1.move) := ((below_alloc1 w5 (.cells #[.int .i64 x.1.move, .int .i64 u] 81)).cell (show (Addr.mk g (k * 6) none).block < _ from Nat.lt_of_lt_of_le hgl hwz)).trans hcB); (have HOT3 : Hid (OptOwn (w5.alloc (.cells #[.int .i64 x.1.move, .int .i64 u] 81)) (S + 1) ta tc acc ∧ wr.heap.size ≤ w5.heap.size ∧ Chg S (S + 1) wr (w5.alloc (.cells #[.int .i64 x.1.move, .int .i64 u] 81))) := ⟨own_below (hC5.ownI (c := 0) (a := none) (own_below HOT.out (Below.refl wr.heap.size wr).drew (Nat.le_refl _)) (by omega)) (below_alloc1 _ _) (Nat.le_refl _), hwz, ((Chg.ofBelow (Below.refl wr.heap.size wr).drew).trans hC5).grow (below_alloc1 _ _)⟩); clear hwz))))
    refine hK.out _ _ ?_ (fun hHeld' => ?_)
    (focus ((try dsimp only); (first | done | ((first | exact hcD | exact hcC | exact hcB | exact q0); done))))
    clear hK K hHeld
    have hHeld := hHeld'
    clear hHeld'
    (try simp only [Act.put, List.setIfInBounds_toArray, List.set_cons_zero, List.set_cons_succ])
    (first | ((refine takeH (i := 12) (v := ?_) (by decide +kernel) (by decide +kernel) (by kernel_rfl) (by rfl) (by exact fun _ _ _ h => h) (by rfl) ?_ (by assumption) ?_); rotate_left; (focus (intro w hSw; (try dsimp only at hSw); go_simp; (try with_reducible rfl); done)); (try simp only [Act.put, List.setIfInBounds_toArray, List.set_cons_zero, List.set_cons_succ])) | ((refine skipH (i := 12) (by decide +kernel) (by decide +kernel) (by kernel_rfl) (by rfl) (by exact fun _ _ _ h => h) (by rfl) (by assumption) ?_); (try simp only [Act.put, List.setIfInBounds_toArray, List.set_cons_zero, List.set_cons_succ])))
    refine nextH (i := 13) (by decide +kernel) (by rfl) (by rfl) (fun K hK => ?_)
    (first | ((refine wp_append_lies _ _ _ 77 rfl (S + 1) 81 i0 _ 2 16 Try.underlying77 hi hz0 hz1 hz2 rfl (by decide) _ _ _ rfl HOT3.out.1 ⟨w5.heap.size, 0, none⟩ 1 1 [.int .i64 x.1.move, .int .i64 u] rfl rfl (by intro j z hz; match j, hz with | 0, hz | 1, hz => (simp at hz; subst hz; simp [Addr.add])) (by intro z hz; simp at hz; rcases hz with rfl | rfl <;> rfl) (by decide) (by unfold maxLen; omega) (by omega) (by have := HOT3.out.2.1; simp; omega) _ rfl ?_); (intro gn cap w6 hown6 hg6 hat6 hlt6); (have hcD : w6.cell? ⟨g, k * 6, none⟩ = some (.int .i64 x.1.move) := (hg6.cell_far ⟨g, k * 6, none⟩ (by have := HOT3.out.2.1; simp; omega) (fun e => (HNO.out g e.symm).1 rfl)).trans hcC)) | (go_simp; (first | (go_at_call 100; (refine HC.out.mono ?_); (rintro e w5 ⟨rfl, hB5, hC5⟩); (have hcB : w5.cell? ⟨g, k * 6, none⟩ = some (.int .i64 x.1.move) := hC5.cell (w := wr.drew) q0 (by omega))) | ((have hwz : wr.heap.size ≤ w5.heap.size := hC5.size); (have hcC : (w5.alloc (.cells #[.int .i64 x.1.move, .int .i64 u] 81)).cell? ⟨g, k * 6, none⟩ = some (.int .i64 x.1.move) := ((below_alloc1 w5 (.cells #[.int .i64 x.1.move, .int .i64 u] 81)).cell (show (Addr.mk g (k * 6) none).block < _ from Nat.lt_of_lt_of_le hgl hwz)).trans hcB); (have HOT3 : Hid (OptOwn (w5.alloc (.cells #[.int .i64 x.1.move, .int .i64 u] 81)) (S + 1) ta tc acc ∧ wr.heap.size ≤ w5.heap.size ∧ Chg S (S + 1) wr (w5.alloc (.cells #[.int .i64 x.1.move, .int .i64 u] 81))) := ⟨own_below (hC5.ownI (c := 0) (a := none) (own_below HOT.out (Below.refl wr.heap.size wr).drew (Nat.le_refl _)) (by omega)) (below_alloc1 _ _) (Nat.le_refl _), hwz, ((Chg.ofBelow (Below.refl wr.heap.size wr).drew).trans hC5).grow (below_alloc1 _ _)⟩); clear hwz))))
    refine hK.out _ _ ?_ (fun hHeld' => ?_)
    (focus ((try dsimp only); (first | done | ((first | exact hcD | exact hcC | exact hcB | exact q0); done))))
    clear hK K hHeld
    have hHeld := hHeld'
    clear hHeld'
    (try simp only [Act.put, List.setIfInBounds_toArray, List.set_cons_zero, List.set_cons_succ])
    refine nextH (i := 14) (by decide +kernel) (by rfl) (by rfl) (fun K hK => ?_)
    (first | ((refine wp_append_lies _ _ _ 77 rfl (S + 1) 81 i0 _ 2 16 Try.underlying77 hi hz0 hz1 hz2 rfl (by decide) _ _ _ rfl HOT3.out.1 ⟨w5.heap.size, 0, none⟩ 1 1 [.int .i64 x.1.move, .int .i64 u] rfl rfl (by intro j z hz; match j, hz with | 0, hz | 1, hz => (simp at hz; subst hz; simp [Addr.add])) (by intro z hz; simp at hz; rcases hz with rfl | rfl <;> rfl) (by decide) (by unfold maxLen; omega) (by omega) (by have := HOT3.out.2.1; simp; omega) _ rfl ?_); (intro gn cap w6 hown6 hg6 hat6 hlt6); (have hcD : w6.cell? ⟨g, k * 6, none⟩ = some (.int .i64 x.1.move) := (hg6.cell_far ⟨g, k * 6, none⟩ (by have := HOT3.out.2.1; simp; omega) (fun e => (HNO.out g e.symm).1 rfl)).trans hcC)) | (go_simp; (first | (go_at_call 100; (refine HC.out.mono ?_); (rintro e w5 ⟨rfl, hB5, hC5⟩); (have hcB : w5.cell? ⟨g, k * 6, none⟩ = some (.int .i64 x.1.move) := hC5.cell (w := wr.drew) q0 (by omega))) | ((have hwz : wr.heap.size ≤ w5.heap.size := hC5.size); (have hcC : (w5.alloc (.cells #[.int .i64 x.1.move, .int .i64 u] 81)).cell? ⟨g, k * 6, none⟩ = some (.int .i64 x.1.move) := ((below_alloc1 w5 (.cells #[.int .i64 x.1.move, .int .i64 u] 81)).cell (show (Addr.mk g (k * 6) none).block < _ from Nat.lt_of_lt_of_le hgl hwz)).trans hcB); (have HOT3 : Hid (OptOwn (w5.alloc (.cells #[.int .i64 x.1.move, .int .i64 u] 81)) (S + 1) ta tc acc ∧ wr.heap.size ≤ w5.heap.size ∧ Chg S (S + 1) wr (w5.alloc (.cells #[.int .i64 x.1.move, .int .i64 u] 81))) := ⟨own_below (hC5.ownI (c := 0) (a := none) (own_below HOT.out (Below.refl wr.heap.size wr).drew (Nat.le_refl _)) (by omega)) (below_alloc1 _ _) (Nat.le_refl _), hwz, ((Chg.ofBelow (Below.refl wr.heap.size wr).drew).trans hC5).grow (below_alloc1 _ _)⟩); clear hwz))))
    refine hK.out _ _ ?_ (fun hHeld' => ?_)
    (focus ((try dsimp only); (first | done | ((first | exact hcD | exact hcC | exact hcB | exact q0); done))))
    clear hK K hHeld
    have hHeld := hHeld'
    clear hHeld'
    (try simp only [Act.put, List.setIfInBounds_toArray, List.set_cons_zero, List.set_cons_succ])
    (first | ((refine takeH (i := 15) (v := ?_) (by decide +kernel) (by decide +kernel) (by kernel_rfl) (by rfl) (by exact fun _ _ _ h => h) (by rfl) ?_ (by assumption) ?_); rotate_left; (focus (intro w hSw; (try dsimp only at hSw); go_simp; (try with_reducible rfl); done)); (try simp only [Act.put, List.setIfInBounds_toArray, List.set_cons_zero, List.set_cons_succ])) | ((refine skipH (i := 15) (by decide +kernel) (by decide +kernel) (by kernel_rfl) (by rfl) (by exact fun _ _ _ h => h) (by rfl) (by assumption) ?_); (try simp only [Act.put, List.setIfInBounds_toArray, List.set_cons_zero, List.set_cons_succ])))
    refine wpAnyH_done (by decide +kernel) ?_ _
    have HN : Hid (SgSt w w2 w6 S rb ro r D l (some ⟨g, 0, none⟩) c g (k + 1) (some ⟨gn, 0, none⟩) cap (acc ++ [(x.1.move, u)]) n) := by
      obtain ⟨_, hwz, hC9⟩ := HOT3.out
      have hzB : (w5.alloc (.cells #[.int .i64 x.1.move, .int .i64 u] 81)).heap.size = w5.heap.size + 1 := by simp
      have hNS : ¬ (Value.slice ta acc.length tc).ownBlock = some S := fun e => by have := (HOT.out.lt _ e).1; omega
      refine ⟨by omega, ?_, HSN.out, ?_, ?_, ?_, ?_, ?_, ?_, ?_⟩
      · rw [List.take_add_one, HX.out, List.map_append, ← HST.out.ac]
        simp only [Option.toList, List.map_cons, List.map_nil]
        rw [HOX.out]
      · unfold OptOwn
        rw [ocells_append, List.length_append]
        exact hown6
      · intro b hb
        have hgb : gn = b := by simpa [Value.ownBlock] using hb
        subst hgb
        rcases hat6 with h5 | h5
        · exact HNO.out _ h5
        · refine ⟨by omega, fun z hz => ⟨fun e => ?_, fun e => ?_⟩⟩
          · have := ((HST.out.own.items z hz).1.pits.lt _ e).2; omega
          · have := ((HST.out.own.items z hz).1.stores.lt _ e).2; omega
      · exact (hC9.mksOwn HST.out.own (by omega)).grown hg6 (fun k' e1 e2 => (HNO.out k' e1).1 (by simpa [Value.ownBlock] using e2.symm)) (fun k' e1 z hz => (HNO.out k' e1).2 z hz)
      · exact (hC9.boxP HST.out.box hgS).grown2 hg6 (fun e => (HNO.out g e).1 rfl)
      · have h5 := hB5.below (below_alloc1 w5 (.cells #[.int .i64 x.1.move, .int .i64 u] 81))
        have hSl : S < (w5.alloc (.cells #[.int .i64 x.1.move, .int .i64 u] 81)).heap.size := World.block_lt_of_cell? _ _ h5.c0
        exact ⟨(hg6.cell_far ⟨S, 0, none⟩ hSl (fun e => hNS e.symm)).trans h5.c0, (hg6.cell_far ⟨S, 1, none⟩ hSl (fun e => hNS e.symm)).trans h5.c1, fun o => (World.frozen?_of_block (w := w5.alloc (.cells #[.int .i64 x.1.move, .int .i64 u] 81)) (hg6.block S hSl (fun e => hNS e.symm))).trans (h5.fz o)⟩
      · exact below_grown (hC9.below HST.out.below hSw) hg6 (fun k' e => by have := (HOT.out.lt k' e).1; omega)
      · have := hg6.size; omega
    clear HC hcB hcC hcD hB5 hC5 hown6 hg6 hat6 hlt6 HOT3 hHeld
    go_wp2
    go_roundw
    case rel =>
      first
      | exact ⟨k + 1, some ⟨gn, 0, none⟩, cap, acc ++ [(x.1.move, u)], n, by go_num, by simp, HN.out⟩
      | ((repeat apply Exists.intro); exact ⟨⟨k + 1, some ⟨gn, 0, none⟩, cap, acc ++ [(x.1.move, u)], n, by go_num, by simp, HN.out⟩, rfl⟩)
    case measure => (simp [intOf]; omega)

set_option maxRecDepth 100000 in
set_option maxHeartbeats 8000000 in
theorem sSearchMove_c (r : R) (p : P) (d : Int) (pa sa : Option Addr) (pc sc : Nat) (w : World) (h : PRow w p pa sa) (m1 : p.pits.length ≤ 16777216) (m2 : p.stores.length ≤ 16777216) :
    Calls Try.prog 34 #[r.val, p.val pa pc sa sc, .int .i64 d] w fun e w' => e = .returned (.tuple #[.int .i64 (smoveP r p d).1, .int .i64 (smoveP r p d).2.1, .int .i64 (smoveP r p d).2.2]) ∧ Below w.heap.size w w' := by
  have F0 := ((Fr.start w).alloc r.cells 31).alloc (p.cells pa pc sa sc) 28
  have hr := R.boxc (F0.at 1 rfl)
  have hp : P.At _ (w.alloc (.cells r.cells 31)).heap.size 0 p pa pc sa sc := ⟨F0.at 0 rfl 0 _ rfl, F0.at 0 rfl 1 _ rfl, F0.at 0 rfl 2 _ rfl⟩
  simp only [World.size_alloc] at hp
  have HO := l15Options_c _ _ _ _ r p d pa sa pc sc _ hr hp (h.below F0.below (Nat.le_refl _)) m1 m2
  have HY : Hid (smoveP r p d = _) := smoveP_opts r p d
  have hlen : (soptsP r p d).1.length ≤ 8 := by
    unfold soptsP
    split
    · rename_i hh; exact optsP_len (ocodeP_zero hh).1 _
    · simp
  obtain ⟨y, hy⟩ : ∃ y, y = smoveP r p d := ⟨_, rfl⟩
  rw [← hy] at HY ⊢
  obtain ⟨x, hx⟩ : ∃ x, x = soptsP r p d := ⟨_, rfl⟩
  rw [← hx] at HO HY hlen
  have HO := Lib.hid HO
  clear hr hp hx hy
  obtain ⟨os, c⟩ := x
  have hlen : os.length ≤ 8 := hlen
  go_enter Try.func34, Try.ntmps34
  go_wp2_with fail
  refine HO.out.mono ?_
  rintro e w1 ⟨ad, cc, rfl, ho, hb1⟩
  have HB1 := Lib.hid (F0.step hb1).below
  clear hb1 F0 HO
  by_cases hz : c = 0
  case neg =>
    have hz' : (c != 0) = true := by simpa using hz
    have HE : Hid (y = (0, 0, c)) := HY.out.trans (if_neg hz)
    clear hz ho
    go_wp2
    go_ret3
    rw [HE.out]
    exact ⟨rfl, HB1.out⟩
  have hz' : (c != 0) = false := by simpa using hz
  have HE1 := Lib.hid (HY.out.trans (if_pos hz))
  clear hz HY
  cases os with
  | nil =>
    have HE : Hid (y = (0, 0, 3)) := HE1.out
    clear ho
    go_wp2
    go_ret3
    rw [HE.out]
    exact ⟨rfl, HB1.out⟩
  | cons o l =>
    have HE : Hid (y = ((bestGo l o).1, (bestGo l o).2, 0)) := HE1.out
    obtain ⟨g, rfl, hg0, hg1, hcs⟩ := opt_cells ho (by simp)
    have hrow : BoxP g (ocells (o :: l)) w1 := by
      intro j v hv
      have hl := ocells_len (o :: l)
      have hj : j < (o :: l).length * 2 := by
        rcases Nat.lt_or_ge j ((o :: l).length * 2) with h | h
        · exact h
        · rw [List.getElem?_eq_none (by omega)] at hv; cases hv
      rw [ho.cellAt j hj]
      exact hv
    have HB := Lib.hid (l15First_c (o :: l) o l rfl g cc w1 hrow hg1 (by omega))
    have hln : (((o :: l).length : Int) == 0) = false := by simp; omega
    have HE1 := Lib.hid HE.out
    obtain ⟨n, hn⟩ : ∃ n, n = (o :: l).length := ⟨_, rfl⟩
    rw [← hn] at HB hln ⊢
    obtain ⟨b, hbd⟩ : ∃ b, b = bestGo l o := ⟨_, rfl⟩
    rw [← hbd] at HB HE
    clear ho hcs hrow hn hbd hlen HE1
    go_wp2_with fail
    refine HB.out.mono ?_
    rintro e w3 ⟨rfl, hb3⟩
    have HB3 := Lib.hid (below_next HB1.out hb3)
    clear hb3
    go_wp2_with fail
    go_quiet (fail)
    go_wp2
    go_ret3
    rw [HE.out]
    exact ⟨rfl, HB3.out.trans (((below_alloc1 _ _).mono HB3.out.size).trans (below_draws _ _ _))⟩

end Go.Proofs.Ytcgbbjlcijhcnaa
