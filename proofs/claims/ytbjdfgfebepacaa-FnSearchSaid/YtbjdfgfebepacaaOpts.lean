/- Opts: the options of a search, and the best one: the program's functions. Each contract holds for every argument, under the premises that it states. -/
import Derived.Test.YtbjdfgfebepacaaSrch1
import Derived.Test.YtbjdfgfebepacaaHeld
namespace Go.Proofs.Ytbjdfgfebepacaa
set_option linter.unusedSimpArgs false
set_option linter.unusedVariables false
set_option linter.unnecessarySimpa false
open Go.RowKit Go.ChangeShapes Go.WideShapes Go.ChangeAt Go.Joins

/-! ### in plain terms -/
abbrev OP := Int × Int
def optP (r : R) (D : Nat) (x : Mk) : OP := (x.move, moveV x (valueP r D (nxt x)))
def optsP (r : R) (p : P) (D : Nat) : List OP := (allP r p).map (optP r D)
def bestGo : List OP → OP → OP
  | [], b => b
  | o :: l, b => bestGo l (if o.2 > b.2 then o else b)
def ocodeP (r : R) (p : P) (d : Int) : Int := if p.ok r = true ∧ d = 0 then 2 else srchC r p d
def smoveP (r : R) (p : P) (d : Int) : Int × Int × Int :=
  if ocodeP r p d = 0 then (match optsP r p (d.toNat - 1) with | [] => (0, 0, 3) | o :: l => ((bestGo l o).1, (bestGo l o).2, 0)) else (0, 0, ocodeP r p d)
theorem ocodeP_zero {r : R} {p : P} {d : Int} (h : ocodeP r p d = 0) : p.ok r = true ∧ srchC r p d = 0 ∧ ∃ D : Nat, d = (D : Int) + 1 ∧ D + 1 ≤ 8 ∧ sizeT r (D + 1) p ≤ 3000 := by
  unfold ocodeP at h
  split at h
  · simp at h
  · rename_i h1
    obtain ⟨h2, D, h3, h4, h5⟩ := srchC_zero h
    refine ⟨h2, h, ?_⟩
    cases D with
    | zero => exact absurd ⟨h2, by omega⟩ h1
    | succ D => exact ⟨D, by omega, by omega, h5⟩
theorem bestGo_self (o : OP) (l : List OP) : bestGo (o :: l) o = bestGo l o := by
  simp only [bestGo]
  rw [if_neg (by omega)]

/-! ### lists of options in memory -/
def ocells : List OP → List Value
  | [] => []
  | x :: l => .int .i64 x.1 :: .int .i64 x.2 :: ocells l
theorem ocells_append (l k : List OP) : ocells (l ++ k) = ocells l ++ ocells k := by
  induction l with
  | nil => rfl
  | cons x l ih => simp [ocells, ih]
theorem ocells_len (l : List OP) : (ocells l).length = l.length * 2 := by
  induction l with
  | nil => rfl
  | cons x l ih => simp [ocells, ih]; omega
theorem ocells_get : ∀ (l : List OP) (i : Nat) (x : OP), l[i]? = some x → (ocells l)[i * 2]? = some (.int .i64 x.1) ∧ (ocells l)[i * 2 + 1]? = some (.int .i64 x.2)
  | [], i, x, h => by simp at h
  | y :: l, 0, x, h => by
    simp at h
    subst h
    exact ⟨rfl, rfl⟩
  | y :: l, i + 1, x, h => by
    have := ocells_get l i x (by simpa using h)
    rw [show (i + 1) * 2 = i * 2 + 1 + 1 by omega]
    exact this
@[reducible] def OptOwn (w : World) (base : Nat) (ad : Option Addr) (c : Nat) (os : List OP) : Prop := w.ownsRow base 93 2 (.slice ad os.length c) os.length (ocells os)
def OptRes (w : World) (os : List OP) (e : Ending) (w' : World) : Prop := ∃ (ad : Option Addr) (c : Nat), e = .returned (.slice ad os.length c) ∧ OptOwn w' w.heap.size ad c os ∧ Below w.heap.size w w'
theorem infoO : (Try.prog.info? 93).map (fun i => (i.zero, i.size, i.bytes)) = some (some (.agg #[.int .i64 0, .int .i64 0]), 2, 16) := by kernel_rfl
theorem info_parts2 {e : TypeId} {z : Value} {bytes : Nat} (h : (Try.prog.info? e).map (fun i => (i.zero, i.size, i.bytes)) = some (some z, 2, bytes)) :
    ∃ i, Try.prog.info? e = some i ∧ i.zero = some z ∧ i.size = 2 ∧ i.bytes = bytes := by
  cases hi : Try.prog.info? e with
  | none => rw [hi] at h; cases h
  | some i =>
    rw [hi] at h
    simp only [Option.map_some, Option.some.injEq, Prod.mk.injEq] at h
    exact ⟨i, rfl, h.1, h.2.1, h.2.2⟩
theorem opt_cells {w : World} {base : Nat} {ad : Option Addr} {c : Nat} {os : List OP} (h : OptOwn w base ad c os) (hp : 0 < os.length) : ∃ g, ad = some ⟨g, 0, none⟩ ∧ base ≤ g ∧ g < w.heap.size ∧
    ∀ (k : Nat) (x : OP), os[k]? = some x → w.cell? ⟨g, k * 2, none⟩ = some (.int .i64 x.1) ∧ w.cell? ⟨g, k * 2 + 1, none⟩ = some (.int .i64 x.2) := by
  obtain ⟨g, hg, h1, h2⟩ := own_lt_n h hp
  subst hg
  refine ⟨g, rfl, h1, h2, fun k x hx => ?_⟩
  have hk : k < os.length := (List.getElem?_eq_some_iff.1 hx).1
  obtain ⟨e1, e2⟩ := ocells_get os k x hx
  have hl := ocells_len os
  refine ⟨?_, ?_⟩
  · rw [h.cellAt (k * 2) (by omega), e1]
  · rw [h.cellAt (k * 2 + 1) (by omega), e2]

/-- a round over the results -/
structure OgSt (w wr : World) (r : R) (D : Nat) (l : List (Mk × MA)) (ad : Option Addr) (c g k : Nat) (ta : Option Addr) (tc : Nat) (acc : List OP) : Prop where
  kl : k ≤ l.length
  ac : acc = (l.take k).map (fun x => optP r D x.1)
  out : OptOwn wr (w.heap.size + 1 + 1) ta tc acc
  no : ∀ b, (Value.slice ta acc.length tc).ownBlock = some b → ¬ b = g ∧ ∀ x ∈ l, ¬ (Value.slice x.2.pa x.1.pits.length x.2.pc).ownBlock = some b ∧ ¬ (Value.slice x.2.sa x.1.stores.length x.2.sc).ownBlock = some b
  own : MksOwn wr (w.heap.size + 1 + 1) ad c l
  box : BoxP g (mcells l) wr
  rx : BoxP w.heap.size r.cells.toList wr
  below : Below w.heap.size w wr
  sz : w.heap.size + 1 + 1 ≤ wr.heap.size
theorem MksOwn.grown {w w' : World} {base c : Nat} {ad : Option Addr} {l : List (Mk × MA)} {row : Option Nat} (h : MksOwn w base ad c l) (hg : w.grownBy w' row) (h1 : ∀ k, row = some k → ¬ (Value.slice ad l.length c).ownBlock = some k)
    (h2 : ∀ k, row = some k → ∀ x ∈ l, ¬ (Value.slice x.2.pa x.1.pits.length x.2.pc).ownBlock = some k ∧ ¬ (Value.slice x.2.sa x.1.stores.length x.2.sc).ownBlock = some k) : MksOwn w' base ad c l :=
  ⟨own_grown h.row hg (fun k hk e => h1 k e hk), fun x hx => ⟨⟨own_grown (h.items x hx).1.pits hg (fun k hk e => (h2 k e x hx).1 hk), own_grown (h.items x hx).1.stores hg (fun k hk e => (h2 k e x hx).2 hk), (h.items x hx).1.apart⟩, (h.items x hx).2⟩, h.sep⟩
set_option maxRecDepth 100000 in
set_option maxHeartbeats 16000000 in
theorem options_c (r : R) (p : P) (hok : p.ok r = true) (D : Nat) (hD : D + 1 ≤ 8) (pa sa : Option Addr) (pc sc : Nat) (w : World) (h : PRow w p pa sa) (hc : p.pits.length ≤ pc) (hcm : pc ≤ maxLen) :
    Calls Try.prog 152 #[r.val, p.val pa pc sa sc, .int .i64 ((D : Int) + 1)] w (OptRes w (optsP r p D)) := by
  obtain ⟨i0, hi, hz0, hz1, hz2⟩ := info_parts2 infoO
  have F0 := ((Fr.start w).alloc r.cells 25).alloc (p.cells pa pc sa sc) 67
  obtain ⟨m1, m2⟩ := P.ok_lens hok
  have HR := Lib.hid (fun W (H : PRow W p pa sa) => results_c r p hok pa sa pc sc W H (by omega) (by omega) hc hcm)
  have HLN := Lib.hid (allP_len8 hok)
  have HV := Lib.hid (fun x (hx : x ∈ allP r p) => allP_valid hx)
  have HPS := Lib.hid (fun x (hx : x ∈ allP r p) => allP_pos hx)
  have HIH := Lib.hid (value_c r D (by omega))
  have HOP : Hid (optsP r p D = (allP r p).map (optP r D)) := rfl
  obtain ⟨os, hos⟩ : ∃ os, os = optsP r p D := ⟨_, rfl⟩
  rw [← hos] at HOP ⊢
  obtain ⟨dI, hdI⟩ : ∃ dI : Int, dI = (D : Int) + 1 := ⟨_, rfl⟩
  rw [← hdI]
  have hsb : dI - 1 = (D : Int) := by omega
  have hwb : IntKind.i64.wrap (D : Int) = (D : Int) := IntWalk.i64_in _ (by omega)
  have O0 : OptOwn (w.alloc (.cells r.cells 25) |>.alloc (.cells (p.cells pa pc sa sc) 67) |>.alloc (.cells #[] 93)) (w.heap.size + 1 + 1) (some ⟨w.heap.size + 1 + 1, 0, none⟩) 0 [] := by
    have := World.ownsRow_lit (base := w.heap.size + 1 + 1) (e := 93) (size := 2) ((w.alloc (.cells r.cells 25)).alloc (.cells (p.cells pa pc sa sc) 67)) #[] 0 (by simp) (Nat.zero_le _) rfl
    simp only [World.size_alloc] at this
    exact this
  have F1 := F0.step (below_alloc1 _ (.cells #[] 93))
  have HO0 := Lib.hid O0
  clear hdI hok hos O0 F0
  go_enter Try.func152, Try.ntmps152
  go_wp2_with fail
  refine (HR.out _ (h.below F1.below (Nat.le_refl _))).mono ?_
  rintro e w2 ⟨l, ad, c, hl, rfl, ho, hb2⟩
  have F2 := F1.step hb2
  have HL := Lib.hid hl
  have hs2 := hb2.size
  have hll : l.length ≤ 8 := by
    have h1 := HLN.out
    rw [← HL.out, List.length_map] at h1
    exact h1
  obtain ⟨g, hbox, hg0, hgd⟩ := mks_box ho hs2
  have HGD := Lib.hid hgd
  have hst0 : Hid (OgSt w w2 r D l ad c g 0 (some ⟨w.heap.size + 1 + 1, 0, none⟩) 0 []) := by
    refine ⟨Nat.zero_le _, rfl, own_below HO0.out hb2 (Nat.le_refl _), fun b hb => ?_, ho.le (by first | (simp; done) | (simp; omega)), hbox, F2.at 1 rfl, F2.below, by simp at hs2; omega⟩
    have hb' : w.heap.size + 1 + 1 = b := by simpa [Value.ownBlock] using hb
    simp only [World.size_alloc] at hg0
    refine ⟨by omega, fun x hx => ⟨fun e => ?_, fun e => ?_⟩⟩
    · have := ((ho.items x hx).1.pits.lt b e).1
      simp only [World.size_alloc] at this
      omega
    · have := ((ho.items x hx).1.stores.lt b e).1
      simp only [World.size_alloc] at this
      omega
  have HVX := Lib.hid (fun x (hx : x ∈ l) => HV.out x.1 (by rw [← HL.out]; exact List.mem_map_of_mem hx))
  have HPX := Lib.hid (fun x (hx : x ∈ l) => HPS.out x.1 (by rw [← HL.out]; exact List.mem_map_of_mem hx))
  have HOS : Hid (os = l.map (fun x => optP r D x.1)) := by
    unfold Hid
    rw [HOP.out, ← HL.out, List.map_map]
    rfl
  clear hb2 hl ho F1 F2 hbox hg0 hgd HV HR HPS HO0 HOP
  go_wp2_with fail
  go_loopw [7, 15] (fun ss i wr => ∃ (k : Nat) (ta : Option Addr) (tc : Nat) (acc : List OP), i = .int .i64 k ∧ ss = .slice ta acc.length tc ∧ OgSt w wr r D l ad c g k ta tc acc) (fun _ i _ => l.length - (intOf i).toNat)
  case atStart => exact ⟨0, _, 0, [], rfl, rfl, hst0.out⟩
  case round =>
    clear hst0
    obtain ⟨k, ta, tc, acc, rfl, rfl, hst⟩ := hrel
    have HST := Lib.hid hst
    have hkl := hst.kl
    clear hst
    by_cases hk : k < l.length
    case neg =>
      have HA : Hid (acc = os) := by
        unfold Hid
        rw [HST.out.ac, HOS.out, List.take_of_length_le (by omega)]
      go_wp2
      go_ret
      have hA := HA.out
      subst hA
      exact ⟨ta, tc, rfl, ownsRow_le HST.out.out (by omega), HST.out.below⟩
    obtain ⟨x, hx⟩ : ∃ x, l[k]? = some x := ⟨l[k], by simp [hk]⟩
    have HX := Lib.hid hx
    obtain ⟨q0, q1, q2, q3, q4, q5⟩ := box_cells HST.out.box hx
    obtain ⟨c0, c1, c2, c3, c4, c5, c6, c7, c8⟩ := R.boxc HST.out.rx
    obtain rfl := HGD.out (by omega)
    have hki : (k : Int) < (l.length : Int) := by omega
    have hgl : g < wr.heap.size := World.block_lt_of_cell? wr _ q0
    have hrl : w.heap.size < wr.heap.size := World.block_lt_of_cell? wr _ c0
    have hxm : x ∈ l := List.mem_of_getElem? hx
    have hal : acc.length ≤ 100 := by rw [HST.out.ac]; simp; omega
    have hsz := HST.out.sz
    have HI := Lib.hid (HST.out.own.items x hxm).1
    have HVN := Lib.hid (HVX.out x hxm)
    obtain ⟨hp0, hp1, hp2⟩ := HPX.out x hxm
    have hB5 : Below wr.heap.size wr (wr.alloc (.cells #[.int .i64 x.1.move, .int .i64 x.1.gain, .bool x.1.again, .slice x.2.pa x.1.pits.length x.2.pc, .slice x.2.sa x.1.stores.length x.2.sc, .int .i64 x.1.player] 178)) := below_alloc1 wr _
    have HB5 := Lib.hid hB5
    have HC := Lib.hid (HIH.out (nxt x.1) HVN.out x.2.pa x.2.sa x.2.pc x.2.sc _ (HI.out.row.below hB5.drew (Nat.le_refl _)) (own_caps HI.out.pits).1 (own_caps HI.out.pits).2)
    have hub := valueP_bd r D (nxt x.1) HVN.out
    have HOX : Hid (optP r D x.1 = (x.1.move, moveV x.1 (valueP r D (nxt x.1)))) := rfl
    obtain ⟨v, hv⟩ : ∃ v, v = valueP r D (nxt x.1) := ⟨_, rfl⟩
    rw [← hv] at hub HC HOX
    obtain ⟨u, hu⟩ : ∃ u, u = moveV x.1 v := ⟨_, rfl⟩
    rw [← hu] at HOX
    have HMV := Lib.hid (fun W => moveValue_c r x.1 x.2 v u W hu hp0 hp2 (by omega) (by omega))
    clear hx hu hv hxm hub
    have FB := (((Fr.from HST.out.below).box HST.out.rx hrl).step hB5)
    obtain ⟨c0, c1, c2, c3, c4, c5, c6, c7, c8⟩ := R.boxc (FB.at 0 rfl)
    have FX := (Fr.start wr).alloc #[.int .i64 x.1.move, .int .i64 x.1.gain, .bool x.1.again, .slice x.2.pa x.1.pits.length x.2.pc, .slice x.2.sa x.1.stores.length x.2.sc, .int .i64 x.1.player] 178
    obtain ⟨x0, x1, x2, x3, x4, x5⟩ := (⟨FX.at 0 rfl 0 _ rfl, FX.at 0 rfl 1 _ rfl, FX.at 0 rfl 2 _ rfl, FX.at 0 rfl 3 _ rfl, FX.at 0 rfl 4 _ rfl, FX.at 0 rfl 5 _ rfl⟩ : _ ∧ _ ∧ _ ∧ _ ∧ _ ∧ _)
    go_wp2_with fail
    have hzX : (wr.alloc (.cells #[.int .i64 x.1.move, .int .i64 x.1.gain, .bool x.1.again, .slice x.2.pa x.1.pits.length x.2.pc, .slice x.2.sa x.1.stores.length x.2.sc, .int .i64 x.1.player] 178)).heap.size = wr.heap.size + 1 := by simp
    have hgl1 : g < wr.heap.size + 1 := by omega
    have hrl1 : w.heap.size < wr.heap.size + 1 := by omega
    have HNO := Lib.hid HST.out.no
    have HOT := Lib.hid HST.out.out
    have HKP : Hid (∀ W : World, (∀ o, W.cell? ⟨w.heap.size, o, none⟩ = (wr.alloc (.cells #[.int .i64 x.1.move, .int .i64 x.1.gain, .bool x.1.again, .slice x.2.pa x.1.pits.length x.2.pc, .slice x.2.sa x.1.stores.length x.2.sc, .int .i64 x.1.player] 178)).cell? ⟨w.heap.size, o, none⟩) → (∀ o, W.cell? ⟨wr.heap.size, o, none⟩ = (wr.alloc (.cells #[.int .i64 x.1.move, .int .i64 x.1.gain, .bool x.1.again, .slice x.2.pa x.1.pits.length x.2.pc, .slice x.2.sa x.1.stores.length x.2.sc, .int .i64 x.1.player] 178)).cell? ⟨wr.heap.size, o, none⟩) →
        (W.cell? ⟨w.heap.size, 0, none⟩ = some (.int .i64 r.pits) ∧ W.cell? ⟨w.heap.size, 1, none⟩ = some (.int .i64 r.seeds) ∧ W.cell? ⟨w.heap.size, 2, none⟩ = some (.bool r.stores) ∧ W.cell? ⟨w.heap.size, 3, none⟩ = some (.bool r.skip) ∧ W.cell? ⟨w.heap.size, 4, none⟩ = some (.bool r.relay) ∧ W.cell? ⟨w.heap.size, 5, none⟩ = some (.bool r.feed) ∧ W.cell? ⟨w.heap.size, 6, none⟩ = some (.bool r.again) ∧ W.cell? ⟨w.heap.size, 7, none⟩ = some (.int .i64 r.capture) ∧ W.cell? ⟨w.heap.size, 8, none⟩ = some (.int .i64 r.slam) ∧
        W.cell? ⟨wr.heap.size, 0, none⟩ = some (.int .i64 x.1.move) ∧ W.cell? ⟨wr.heap.size, 1, none⟩ = some (.int .i64 x.1.gain) ∧ W.cell? ⟨wr.heap.size, 2, none⟩ = some (.bool x.1.again) ∧ W.cell? ⟨wr.heap.size, 3, none⟩ = some (.slice x.2.pa x.1.pits.length x.2.pc) ∧ W.cell? ⟨wr.heap.size, 4, none⟩ = some (.slice x.2.sa x.1.stores.length x.2.sc) ∧ W.cell? ⟨wr.heap.size, 5, none⟩ = some (.int .i64 x.1.player))) := fun W H1 H2 =>
      ⟨(H1 _).trans c0, (H1 _).trans c1, (H1 _).trans c2, (H1 _).trans c3, (H1 _).trans c4, (H1 _).trans c5, (H1 _).trans c6, (H1 _).trans c7, (H1 _).trans c8, (H2 _).trans x0, (H2 _).trans x1, (H2 _).trans x2, (H2 _).trans x3, (H2 _).trans x4, (H2 _).trans x5⟩
    have HNA : Hid (¬ (Value.slice ta acc.length tc).ownBlock = some w.heap.size) := fun e => by have := (HOT.out.lt _ e).1; omega
    have HNB : Hid (¬ (Value.slice ta acc.length tc).ownBlock = some wr.heap.size) := fun e => by have := (HOT.out.lt _ e).2; omega
    clear c0 c1 c2 c3 c4 c5 c6 c7 c8 x0 x1 x2 x3 x4 x5 q0 q1 q2 q3 q4 q5 FB FX
    generalize hXd : (wr.alloc (.cells #[.int .i64 x.1.move, .int .i64 x.1.gain, .bool x.1.again, .slice x.2.pa x.1.pits.length x.2.pc, .slice x.2.sa x.1.stores.length x.2.sc, .int .i64 x.1.player] 178)) = X at *
    refine heldH (S := fun W => W.cell? ⟨w.heap.size, 0, none⟩ = some (.int .i64 r.pits) ∧ W.cell? ⟨w.heap.size, 1, none⟩ = some (.int .i64 r.seeds) ∧ W.cell? ⟨w.heap.size, 2, none⟩ = some (.bool r.stores) ∧ W.cell? ⟨w.heap.size, 3, none⟩ = some (.bool r.skip) ∧ W.cell? ⟨w.heap.size, 4, none⟩ = some (.bool r.relay) ∧ W.cell? ⟨w.heap.size, 5, none⟩ = some (.bool r.feed) ∧ W.cell? ⟨w.heap.size, 6, none⟩ = some (.bool r.again) ∧ W.cell? ⟨w.heap.size, 7, none⟩ = some (.int .i64 r.capture) ∧ W.cell? ⟨w.heap.size, 8, none⟩ = some (.int .i64 r.slam) ∧ W.cell? ⟨wr.heap.size, 0, none⟩ = some (.int .i64 x.1.move) ∧ W.cell? ⟨wr.heap.size, 1, none⟩ = some (.int .i64 x.1.gain) ∧ W.cell? ⟨wr.heap.size, 2, none⟩ = some (.bool x.1.again) ∧ W.cell? ⟨wr.heap.size, 3, none⟩ = some (.slice x.2.pa x.1.pits.length x.2.pc) ∧ W.cell? ⟨wr.heap.size, 4, none⟩ = some (.slice x.2.sa x.1.stores.length x.2.sc) ∧ W.cell? ⟨wr.heap.size, 5, none⟩ = some (.int .i64 x.1.player)) (n := 16) (listed := #[false, false, false, false, false, false, false, false, false, false, false, false, false, false, false, false]) (by kernel_rfl) (by rfl) (by rfl) ?_ (fun hHeld => ?_)
    (focus ((try dsimp only); (first | done | ((first | exact HKP.out _ (fun o => hcD _ _ (by omega) HNA.out) (fun o => hcD _ _ (by omega) HNB.out) | exact HKP.out _ (fun o => hcC _ _ (by omega)) (fun o => hcC _ _ (by omega)) | exact HKP.out _ (fun o => hcB _ _ (by omega)) (fun o => hcB _ _ (by omega)) | exact HKP.out _ (fun o => hcA _ _ (by omega)) (fun o => hcA _ _ (by omega)) | exact HKP.out _ (fun o => rfl) (fun o => rfl)); done))))
    (first | ((refine takeH (i := 0) (v := ?_) (by decide +kernel) (by decide +kernel) (by kernel_rfl) (by rfl) (by exact fun _ _ _ h => h) (by rfl) ?_ (by assumption) ?_); rotate_left; (focus (intro w hSw; (try dsimp only at hSw); go_simp; (try with_reducible rfl); done)); (try simp only [Act.put, List.setIfInBounds_toArray, List.set_cons_zero, List.set_cons_succ])) | ((refine skipH (i := 0) (by decide +kernel) (by decide +kernel) (by kernel_rfl) (by rfl) (by exact fun _ _ _ h => h) (by rfl) (by assumption) ?_); (try simp only [Act.put, List.setIfInBounds_toArray, List.set_cons_zero, List.set_cons_succ])))
    (first | ((refine takeH (i := 1) (v := ?_) (by decide +kernel) (by decide +kernel) (by kernel_rfl) (by rfl) (by exact fun _ _ _ h => h) (by rfl) ?_ (by assumption) ?_); rotate_left; (focus (intro w hSw; (try dsimp only at hSw); go_simp; (try with_reducible rfl); done)); (try simp only [Act.put, List.setIfInBounds_toArray, List.set_cons_zero, List.set_cons_succ])) | ((refine skipH (i := 1) (by decide +kernel) (by decide +kernel) (by kernel_rfl) (by rfl) (by exact fun _ _ _ h => h) (by rfl) (by assumption) ?_); (try simp only [Act.put, List.setIfInBounds_toArray, List.set_cons_zero, List.set_cons_succ])))
    (first | ((refine takeH (i := 2) (v := ?_) (by decide +kernel) (by decide +kernel) (by kernel_rfl) (by rfl) (by exact fun _ _ _ h => h) (by rfl) ?_ (by assumption) ?_); rotate_left; (focus (intro w hSw; (try dsimp only at hSw); go_simp; (try with_reducible rfl); done)); (try simp only [Act.put, List.setIfInBounds_toArray, List.set_cons_zero, List.set_cons_succ])) | ((refine skipH (i := 2) (by decide +kernel) (by decide +kernel) (by kernel_rfl) (by rfl) (by exact fun _ _ _ h => h) (by rfl) (by assumption) ?_); (try simp only [Act.put, List.setIfInBounds_toArray, List.set_cons_zero, List.set_cons_succ])))
    (first | ((refine takeH (i := 3) (v := ?_) (by decide +kernel) (by decide +kernel) (by kernel_rfl) (by rfl) (by exact fun _ _ _ h => h) (by rfl) ?_ (by assumption) ?_); rotate_left; (focus (intro w hSw; (try dsimp only at hSw); go_simp; (try with_reducible rfl); done)); (try simp only [Act.put, List.setIfInBounds_toArray, List.set_cons_zero, List.set_cons_succ])) | ((refine skipH (i := 3) (by decide +kernel) (by decide +kernel) (by kernel_rfl) (by rfl) (by exact fun _ _ _ h => h) (by rfl) (by assumption) ?_); (try simp only [Act.put, List.setIfInBounds_toArray, List.set_cons_zero, List.set_cons_succ])))
    (first | ((refine takeH (i := 4) (v := ?_) (by decide +kernel) (by decide +kernel) (by kernel_rfl) (by rfl) (by exact fun _ _ _ h => h) (by rfl) ?_ (by assumption) ?_); rotate_left; (focus (intro w hSw; (try dsimp only at hSw); go_simp; (try with_reducible rfl); done)); (try simp only [Act.put, List.setIfInBounds_toArray, List.set_cons_zero, List.set_cons_succ])) | ((refine skipH (i := 4) (by decide +kernel) (by decide +kernel) (by kernel_rfl) (by rfl) (by exact fun _ _ _ h => h) (by rfl) (by assumption) ?_); (try simp only [Act.put, List.setIfInBounds_toArray, List.set_cons_zero, List.set_cons_succ])))
    (first | ((refine takeH (i := 5) (v := ?_) (by decide +kernel) (by decide +kernel) (by kernel_rfl) (by rfl) (by exact fun _ _ _ h => h) (by rfl) ?_ (by assumption) ?_); rotate_left; (focus (intro w hSw; (try dsimp only at hSw); go_simp; (try with_reducible rfl); done)); (try simp only [Act.put, List.setIfInBounds_toArray, List.set_cons_zero, List.set_cons_succ])) | ((refine skipH (i := 5) (by decide +kernel) (by decide +kernel) (by kernel_rfl) (by rfl) (by exact fun _ _ _ h => h) (by rfl) (by assumption) ?_); (try simp only [Act.put, List.setIfInBounds_toArray, List.set_cons_zero, List.set_cons_succ])))
    (first | ((refine takeH (i := 6) (v := ?_) (by decide +kernel) (by decide +kernel) (by kernel_rfl) (by rfl) (by exact fun _ _ _ h => h) (by rfl) ?_ (by assumption) ?_); rotate_left; (focus (intro w hSw; (try dsimp only at hSw); go_simp; (try with_reducible rfl); done)); (try simp only [Act.put, List.setIfInBounds_toArray, List.set_cons_zero, List.set_cons_succ])) | ((refine skipH (i := 6) (by decide +kernel) (by decide +kernel) (by kernel_rfl) (by rfl) (by exact fun _ _ _ h => h) (by rfl) (by assumption) ?_); (try simp only [Act.put, List.setIfInBounds_toArray, List.set_cons_zero, List.set_cons_succ])))
    (first | ((refine takeH (i := 7) (v := ?_) (by decide +kernel) (by decide +kernel) (by kernel_rfl) (by rfl) (by exact fun _ _ _ h => h) (by rfl) ?_ (by assumption) ?_); rotate_left; (focus (intro w hSw; (try dsimp only at hSw); go_simp; (try with_reducible rfl); done)); (try simp only [Act.put, List.setIfInBounds_toArray, List.set_cons_zero, List.set_cons_succ])) | ((refine skipH (i := 7) (by decide +kernel) (by decide +kernel) (by kernel_rfl) (by rfl) (by exact fun _ _ _ h => h) (by rfl) (by assumption) ?_); (try simp only [Act.put, List.setIfInBounds_toArray, List.set_cons_zero, List.set_cons_succ])))
    (first | ((refine takeH (i := 8) (v := ?_) (by decide +kernel) (by decide +kernel) (by kernel_rfl) (by rfl) (by exact fun _ _ _ h => h) (by rfl) ?_ (by assumption) ?_); rotate_left; (focus (intro w hSw; (try dsimp only at hSw); go_simp; (try with_reducible rfl); done)); (try simp only [Act.put, List.setIfInBounds_toArray, List.set_cons_zero, List.set_cons_succ])) | ((refine skipH (i := 8) (by decide +kernel) (by decide +kernel) (by kernel_rfl) (by rfl) (by exact fun _ _ _ h => h) (by rfl) (by assumption) ?_); (try simp only [Act.put, List.setIfInBounds_toArray, List.set_cons_zero, List.set_cons_succ])))
    (first | ((refine takeH (i := 9) (v := ?_) (by decide +kernel) (by decide +kernel) (by kernel_rfl) (by rfl) (by exact fun _ _ _ h => h) (by rfl) ?_ (by assumption) ?_); rotate_left; (focus (intro w hSw; (try dsimp only at hSw); go_simp; (try with_reducible rfl); done)); (try simp only [Act.put, List.setIfInBounds_toArray, List.set_cons_zero, List.set_cons_succ])) | ((refine skipH (i := 9) (by decide +kernel) (by decide +kernel) (by kernel_rfl) (by rfl) (by exact fun _ _ _ h => h) (by rfl) (by assumption) ?_); (try simp only [Act.put, List.setIfInBounds_toArray, List.set_cons_zero, List.set_cons_succ])))
    refine nextH (i := 10) (by decide +kernel) (by rfl) (by rfl) (fun K hK => ?_)
    (first | ((refine wp_append_lies _ _ _ 86 rfl (w.heap.size + 1 + 1) 93 i0 _ 2 16 Try.underlying86 hi hz0 hz1 hz2 rfl (by decide) _ _ _ rfl HOT3.out.1 ⟨wB.heap.size, 0, none⟩ 1 1 [.int .i64 x.1.move, .int .i64 u] rfl rfl (by intro j z hz; match j, hz with | 0, hz | 1, hz => (simp at hz; subst hz; simp [Addr.add])) (by intro z hz; simp at hz; rcases hz with rfl | rfl <;> rfl) (by decide) (by unfold maxLen; omega) (by omega) (by have := HOT3.out.2; simp; omega) _ rfl ?_); (intro gn cap w4 hown4 hg4 hat4 hlt4); (have hcD : ∀ b o, b < wr.heap.size + 1 → ¬ (Value.slice ta acc.length tc).ownBlock = some b → w4.cell? ⟨b, o, none⟩ = X.cell? ⟨b, o, none⟩ := fun b o h1 h2 => (hg4.cell_far ⟨b, o, none⟩ (by have := HOT3.out.2; simp; omega) (fun e => h2 e.symm)).trans (hcC b o h1))) | (go_simp; (first | (go_at_call 147; (refine HC.out.mono ?_); (rintro e wA ⟨rfl, hbA⟩); (have hcA : ∀ b o, b < wr.heap.size + 1 → wA.cell? ⟨b, o, none⟩ = X.cell? ⟨b, o, none⟩ := fun b o h => (bcell hbA).1 b o (by simpa [hzX] using h))) | (go_at_call 187; (refine (HMV.out _).mono ?_); (rintro e wB ⟨rfl, hbB⟩); (have hcB : ∀ b o, b < wr.heap.size + 1 → wB.cell? ⟨b, o, none⟩ = X.cell? ⟨b, o, none⟩ := fun b o h => ((bcell hbB).1 b o (Nat.lt_of_lt_of_le h (Nat.le_trans (by simp [hzX]) hbA.size))).trans (hcA b o h))) | ((have hwz : wr.heap.size + 1 ≤ wB.heap.size := by have h1 := hbA.size; have h2 := hbB.size; simp [hzX] at h1; omega); (have hcC : ∀ b o, b < wr.heap.size + 1 → (wB.alloc (.cells #[.int .i64 x.1.move, .int .i64 u] 93)).cell? ⟨b, o, none⟩ = X.cell? ⟨b, o, none⟩ := fun b o h => ((below_alloc1 wB (.cells #[.int .i64 x.1.move, .int .i64 u] 93)).cell (show (Addr.mk b o none).block < _ from Nat.lt_of_lt_of_le h hwz)).trans (hcB b o h)); (have HB9 : Hid (Below wr.heap.size wr (wB.alloc (.cells #[.int .i64 x.1.move, .int .i64 u] 93))) := below_next (below_next (below_next HB5.out.drew hbA) hbB) (below_alloc1 _ _)); (have HOT3 : Hid (OptOwn (wB.alloc (.cells #[.int .i64 x.1.move, .int .i64 u] 93)) (w.heap.size + 1 + 1) ta tc acc ∧ wr.heap.size + 1 ≤ wB.heap.size) := ⟨own_below HOT.out HB9.out (Nat.le_refl _), hwz⟩); clear hwz))))
    refine hK.out _ _ ?_ (fun hHeld' => ?_)
    (focus ((try dsimp only); (first | done | ((first | exact HKP.out _ (fun o => hcD _ _ (by omega) HNA.out) (fun o => hcD _ _ (by omega) HNB.out) | exact HKP.out _ (fun o => hcC _ _ (by omega)) (fun o => hcC _ _ (by omega)) | exact HKP.out _ (fun o => hcB _ _ (by omega)) (fun o => hcB _ _ (by omega)) | exact HKP.out _ (fun o => hcA _ _ (by omega)) (fun o => hcA _ _ (by omega)) | exact HKP.out _ (fun o => rfl) (fun o => rfl)); done))))
    clear hK K hHeld
    have hHeld := hHeld'
    clear hHeld'
    (try simp only [Act.put, List.setIfInBounds_toArray, List.set_cons_zero, List.set_cons_succ])
    refine nextH (i := 11) (by decide +kernel) (by rfl) (by rfl) (fun K hK => ?_)
    (first | ((refine wp_append_lies _ _ _ 86 rfl (w.heap.size + 1 + 1) 93 i0 _ 2 16 Try.underlying86 hi hz0 hz1 hz2 rfl (by decide) _ _ _ rfl HOT3.out.1 ⟨wB.heap.size, 0, none⟩ 1 1 [.int .i64 x.1.move, .int .i64 u] rfl rfl (by intro j z hz; match j, hz with | 0, hz | 1, hz => (simp at hz; subst hz; simp [Addr.add])) (by intro z hz; simp at hz; rcases hz with rfl | rfl <;> rfl) (by decide) (by unfold maxLen; omega) (by omega) (by have := HOT3.out.2; simp; omega) _ rfl ?_); (intro gn cap w4 hown4 hg4 hat4 hlt4); (have hcD : ∀ b o, b < wr.heap.size + 1 → ¬ (Value.slice ta acc.length tc).ownBlock = some b → w4.cell? ⟨b, o, none⟩ = X.cell? ⟨b, o, none⟩ := fun b o h1 h2 => (hg4.cell_far ⟨b, o, none⟩ (by have := HOT3.out.2; simp; omega) (fun e => h2 e.symm)).trans (hcC b o h1))) | (go_simp; (first | (go_at_call 147; (refine HC.out.mono ?_); (rintro e wA ⟨rfl, hbA⟩); (have hcA : ∀ b o, b < wr.heap.size + 1 → wA.cell? ⟨b, o, none⟩ = X.cell? ⟨b, o, none⟩ := fun b o h => (bcell hbA).1 b o (by simpa [hzX] using h))) | (go_at_call 187; (refine (HMV.out _).mono ?_); (rintro e wB ⟨rfl, hbB⟩); (have hcB : ∀ b o, b < wr.heap.size + 1 → wB.cell? ⟨b, o, none⟩ = X.cell? ⟨b, o, none⟩ := fun b o h => ((bcell hbB).1 b o (Nat.lt_of_lt_of_le h (Nat.le_trans (by simp [hzX]) hbA.size))).trans (hcA b o h))) | ((have hwz : wr.heap.size + 1 ≤ wB.heap.size := by have h1 := hbA.size; have h2 := hbB.size; simp [hzX] at h1; omega); (have hcC : ∀ b o, b < wr.heap.size + 1 → (wB.alloc (.cells #[.int .i64 x.1.move, .int .i64 u] 93)).cell? ⟨b, o, none⟩ = X.cell? ⟨b, o, none⟩ := fun b o h => ((below_alloc1 wB (.cells #[.int .i64 x.1.move, .int .i64 u] 93)).cell (show (Addr.mk b o none).block < _ from Nat.lt_of_lt_of_le h hwz)).trans (hcB b o h)); (have HB9 : Hid (Below wr.heap.size wr (wB.alloc (.cells #[.int .i64 x.1.move, .int .i64 u] 93))) := below_next (below_next (below_next HB5.out.drew hbA) hbB) (below_alloc1 _ _)); (have HOT3 : Hid (OptOwn (wB.alloc (.cells #[.int .i64 x.1.move, .int .i64 u] 93)) (w.heap.size + 1 + 1) ta tc acc ∧ wr.heap.size + 1 ≤ wB.heap.size) := ⟨own_below HOT.out HB9.out (Nat.le_refl _), hwz⟩); clear hwz))))
    refine hK.out _ _ ?_ (fun hHeld' => ?_)
    (focus ((try dsimp only); (first | done | ((first | exact HKP.out _ (fun o => hcD _ _ (by omega) HNA.out) (fun o => hcD _ _ (by omega) HNB.out) | exact HKP.out _ (fun o => hcC _ _ (by omega)) (fun o => hcC _ _ (by omega)) | exact HKP.out _ (fun o => hcB _ _ (by omega)) (fun o => hcB _ _ (by omega)) | exact HKP.out _ (fun o => hcA _ _ (by omega)) (fun o => hcA _ _ (by omega)) | exact HKP.out _ (fun o => rfl) (fun o => rfl)); done))))
    clear hK K hHeld
    have hHeld := hHeld'
    clear hHeld'
    (try simp only [Act.put, List.setIfInBounds_toArray, List.set_cons_zero, List.set_cons_succ])
    (first | ((refine takeH (i := 12) (v := ?_) (by decide +kernel) (by decide +kernel) (by kernel_rfl) (by rfl) (by exact fun _ _ _ h => h) (by rfl) ?_ (by assumption) ?_); rotate_left; (focus (intro w hSw; (try dsimp only at hSw); go_simp; (try with_reducible rfl); done)); (try simp only [Act.put, List.setIfInBounds_toArray, List.set_cons_zero, List.set_cons_succ])) | ((refine skipH (i := 12) (by decide +kernel) (by decide +kernel) (by kernel_rfl) (by rfl) (by exact fun _ _ _ h => h) (by rfl) (by assumption) ?_); (try simp only [Act.put, List.setIfInBounds_toArray, List.set_cons_zero, List.set_cons_succ])))
    refine nextH (i := 13) (by decide +kernel) (by rfl) (by rfl) (fun K hK => ?_)
    (first | ((refine wp_append_lies _ _ _ 86 rfl (w.heap.size + 1 + 1) 93 i0 _ 2 16 Try.underlying86 hi hz0 hz1 hz2 rfl (by decide) _ _ _ rfl HOT3.out.1 ⟨wB.heap.size, 0, none⟩ 1 1 [.int .i64 x.1.move, .int .i64 u] rfl rfl (by intro j z hz; match j, hz with | 0, hz | 1, hz => (simp at hz; subst hz; simp [Addr.add])) (by intro z hz; simp at hz; rcases hz with rfl | rfl <;> rfl) (by decide) (by unfold maxLen; omega) (by omega) (by have := HOT3.out.2; simp; omega) _ rfl ?_); (intro gn cap w4 hown4 hg4 hat4 hlt4); (have hcD : ∀ b o, b < wr.heap.size + 1 → ¬ (Value.slice ta acc.length tc).ownBlock = some b → w4.cell? ⟨b, o, none⟩ = X.cell? ⟨b, o, none⟩ := fun b o h1 h2 => (hg4.cell_far ⟨b, o, none⟩ (by have := HOT3.out.2; simp; omega) (fun e => h2 e.symm)).trans (hcC b o h1))) | (go_simp; (first | (go_at_call 147; (refine HC.out.mono ?_); (rintro e wA ⟨rfl, hbA⟩); (have hcA : ∀ b o, b < wr.heap.size + 1 → wA.cell? ⟨b, o, none⟩ = X.cell? ⟨b, o, none⟩ := fun b o h => (bcell hbA).1 b o (by simpa [hzX] using h))) | (go_at_call 187; (refine (HMV.out _).mono ?_); (rintro e wB ⟨rfl, hbB⟩); (have hcB : ∀ b o, b < wr.heap.size + 1 → wB.cell? ⟨b, o, none⟩ = X.cell? ⟨b, o, none⟩ := fun b o h => ((bcell hbB).1 b o (Nat.lt_of_lt_of_le h (Nat.le_trans (by simp [hzX]) hbA.size))).trans (hcA b o h))) | ((have hwz : wr.heap.size + 1 ≤ wB.heap.size := by have h1 := hbA.size; have h2 := hbB.size; simp [hzX] at h1; omega); (have hcC : ∀ b o, b < wr.heap.size + 1 → (wB.alloc (.cells #[.int .i64 x.1.move, .int .i64 u] 93)).cell? ⟨b, o, none⟩ = X.cell? ⟨b, o, none⟩ := fun b o h => ((below_alloc1 wB (.cells #[.int .i64 x.1.move, .int .i64 u] 93)).cell (show (Addr.mk b o none).block < _ from Nat.lt_of_lt_of_le h hwz)).trans (hcB b o h)); (have HB9 : Hid (Below wr.heap.size wr (wB.alloc (.cells #[.int .i64 x.1.move, .int .i64 u] 93))) := below_next (below_next (below_next HB5.out.drew hbA) hbB) (below_alloc1 _ _)); (have HOT3 : Hid (OptOwn (wB.alloc (.cells #[.int .i64 x.1.move, .int .i64 u] 93)) (w.heap.size + 1 + 1) ta tc acc ∧ wr.heap.size + 1 ≤ wB.heap.size) := ⟨own_below HOT.out HB9.out (Nat.le_refl _), hwz⟩); clear hwz))))
    refine hK.out _ _ ?_ (fun hHeld' => ?_)
    (focus ((try dsimp only); (first | done | ((first | exact HKP.out _ (fun o => hcD _ _ (by omega) HNA.out) (fun o => hcD _ _ (by omega) HNB.out) | exact HKP.out _ (fun o => hcC _ _ (by omega)) (fun o => hcC _ _ (by omega)) | exact HKP.out _ (fun o => hcB _ _ (by omega)) (fun o => hcB _ _ (by omega)) | exact HKP.out _ (fun o => hcA _ _ (by omega)) (fun o => hcA _ _ (by omega)) | exact HKP.out _ (fun o => rfl) (fun o => rfl)); done))))
    clear hK K hHeld
    have hHeld := hHeld'
    clear hHeld'
    (try simp only [Act.put, List.setIfInBounds_toArray, List.set_cons_zero, List.set_cons_succ])
    refine nextH (i := 14) (by decide +kernel) (by rfl) (by rfl) (fun K hK => ?_)
    (first | ((refine wp_append_lies _ _ _ 86 rfl (w.heap.size + 1 + 1) 93 i0 _ 2 16 Try.underlying86 hi hz0 hz1 hz2 rfl (by decide) _ _ _ rfl HOT3.out.1 ⟨wB.heap.size, 0, none⟩ 1 1 [.int .i64 x.1.move, .int .i64 u] rfl rfl (by intro j z hz; match j, hz with | 0, hz | 1, hz => (simp at hz; subst hz; simp [Addr.add])) (by intro z hz; simp at hz; rcases hz with rfl | rfl <;> rfl) (by decide) (by unfold maxLen; omega) (by omega) (by have := HOT3.out.2; simp; omega) _ rfl ?_); (intro gn cap w4 hown4 hg4 hat4 hlt4); (have hcD : ∀ b o, b < wr.heap.size + 1 → ¬ (Value.slice ta acc.length tc).ownBlock = some b → w4.cell? ⟨b, o, none⟩ = X.cell? ⟨b, o, none⟩ := fun b o h1 h2 => (hg4.cell_far ⟨b, o, none⟩ (by have := HOT3.out.2; simp; omega) (fun e => h2 e.symm)).trans (hcC b o h1))) | (go_simp; (first | (go_at_call 147; (refine HC.out.mono ?_); (rintro e wA ⟨rfl, hbA⟩); (have hcA : ∀ b o, b < wr.heap.size + 1 → wA.cell? ⟨b, o, none⟩ = X.cell? ⟨b, o, none⟩ := fun b o h => (bcell hbA).1 b o (by simpa [hzX] using h))) | (go_at_call 187; (refine (HMV.out _).mono ?_); (rintro e wB ⟨rfl, hbB⟩); (have hcB : ∀ b o, b < wr.heap.size + 1 → wB.cell? ⟨b, o, none⟩ = X.cell? ⟨b, o, none⟩ := fun b o h => ((bcell hbB).1 b o (Nat.lt_of_lt_of_le h (Nat.le_trans (by simp [hzX]) hbA.size))).trans (hcA b o h))) | ((have hwz : wr.heap.size + 1 ≤ wB.heap.size := by have h1 := hbA.size; have h2 := hbB.size; simp [hzX] at h1; omega); (have hcC : ∀ b o, b < wr.heap.size + 1 → (wB.alloc (.cells #[.int .i64 x.1.move, .int .i64 u] 93)).cell? ⟨b, o, none⟩ = X.cell? ⟨b, o, none⟩ := fun b o h => ((below_alloc1 wB (.cells #[.int .i64 x.1.move, .int .i64 u] 93)).cell (show (Addr.mk b o none).block < _ from Nat.lt_of_lt_of_le h hwz)).trans (hcB b o h)); (have HB9 : Hid (Below wr.heap.size wr (wB.alloc (.cells #[.int .i64 x.1.move, .int .i64 u] 93))) := below_next (below_next (below_next HB5.out.drew hbA) hbB) (below_alloc1 _ _)); (have HOT3 : Hid (OptOwn (wB.alloc (.cells #[.int .i64 x.1.move, .int .i64 u] 93)) (w.heap.size + 1 + 1) ta tc acc ∧ wr.heap.size + 1 ≤ wB.heap.size) := ⟨own_below HOT.out HB9.out (Nat.le_refl _), hwz⟩); clear hwz))))
    refine hK.out _ _ ?_ (fun hHeld' => ?_)
    (focus ((try dsimp only); (first | done | ((first | exact HKP.out _ (fun o => hcD _ _ (by omega) HNA.out) (fun o => hcD _ _ (by omega) HNB.out) | exact HKP.out _ (fun o => hcC _ _ (by omega)) (fun o => hcC _ _ (by omega)) | exact HKP.out _ (fun o => hcB _ _ (by omega)) (fun o => hcB _ _ (by omega)) | exact HKP.out _ (fun o => hcA _ _ (by omega)) (fun o => hcA _ _ (by omega)) | exact HKP.out _ (fun o => rfl) (fun o => rfl)); done))))
    clear hK K hHeld
    have hHeld := hHeld'
    clear hHeld'
    (try simp only [Act.put, List.setIfInBounds_toArray, List.set_cons_zero, List.set_cons_succ])
    (first | ((refine takeH (i := 15) (v := ?_) (by decide +kernel) (by decide +kernel) (by kernel_rfl) (by rfl) (by exact fun _ _ _ h => h) (by rfl) ?_ (by assumption) ?_); rotate_left; (focus (intro w hSw; (try dsimp only at hSw); go_simp; (try with_reducible rfl); done)); (try simp only [Act.put, List.setIfInBounds_toArray, List.set_cons_zero, List.set_cons_succ])) | ((refine skipH (i := 15) (by decide +kernel) (by decide +kernel) (by kernel_rfl) (by rfl) (by exact fun _ _ _ h => h) (by rfl) (by assumption) ?_); (try simp only [Act.put, List.setIfInBounds_toArray, List.set_cons_zero, List.set_cons_succ])))
    refine wpAnyH_done (by decide +kernel) ?_ _
    have HN : Hid (OgSt w w4 r D l (some ⟨g, 0, none⟩) c g (k + 1) (some ⟨gn, 0, none⟩) cap (acc ++ [(x.1.move, u)])) := by
      have hwz := HOT3.out.2
      have hzB : (wB.alloc (.cells #[.int .i64 x.1.move, .int .i64 u] 93)).heap.size = wB.heap.size + 1 := by simp
      refine ⟨by omega, ?_, ?_, ?_, ?_, ?_, ?_, ?_, ?_⟩
      · rw [List.take_add_one, HX.out, List.map_append, ← HST.out.ac]
        simp only [Option.toList, List.map_cons, List.map_nil]
        rw [HOX.out]
      · unfold OptOwn
        rw [ocells_append, List.length_append]
        exact hown4
      · intro b hb
        have hgb : gn = b := by simpa [Value.ownBlock] using hb
        subst hgb
        rcases hat4 with h5 | h5
        · exact HNO.out _ h5
        · refine ⟨by omega, fun z hz => ⟨fun e => ?_, fun e => ?_⟩⟩
          · have := ((HST.out.own.items z hz).1.pits.lt _ e).2; omega
          · have := ((HST.out.own.items z hz).1.stores.lt _ e).2; omega
      · exact (HST.out.own.below HB9.out (Nat.le_refl _)).grown hg4 (fun k' e1 e2 => (HNO.out k' e1).1 (by simpa [Value.ownBlock] using e2.symm)) (fun k' e1 z hz => (HNO.out k' e1).2 z hz)
      · exact (HST.out.box.below HB9.out).grown2 hg4 (fun e => (HNO.out g e).1 rfl)
      · exact (HST.out.rx.below HB9.out).grown2 hg4 HNA.out
      · exact below_grown (below_next HST.out.below HB9.out) hg4 (fun k' e => by have := (HOT.out.lt k' e).1; omega)
      · have := hg4.size; omega
    clear HC HMV hcA hcB hcC hcD hbA hbB hown4 hg4 hat4 hlt4 HOT3 HB9 hHeld
    go_wp2
    go_roundw
    case rel =>
      first
      | exact ⟨k + 1, some ⟨gn, 0, none⟩, cap, acc ++ [(x.1.move, u)], by go_num, by simp, HN.out⟩
      | ((repeat apply Exists.intro); exact ⟨⟨k + 1, some ⟨gn, 0, none⟩, cap, acc ++ [(x.1.move, u)], by go_num, by simp, HN.out⟩, rfl⟩)
    case measure => (simp [intOf]; omega)


/-! ### Best: the best option, and the search for a move: the program's functions. Each contract holds for every argument, under the premises that it states. -/
/-- a round over the options -/
structure BsSt (w wr : World) (g : Nat) (os : List OP) (k : Nat) (b tgt : OP) : Prop where
  kl : k ≤ os.length
  go : bestGo (os.drop k) b = tgt
  gl : g < w.heap.size
  row : BoxP g (ocells os) wr
  r0 : wr.cell? ⟨w.heap.size, 0, none⟩ = some (.int .i64 0)
  r1 : wr.cell? ⟨w.heap.size, 1, none⟩ = some (.int .i64 0)
  rf : ∀ o, wr.frozen? ⟨w.heap.size, o, none⟩ = false
  b0 : wr.cell? ⟨w.heap.size + 1, 0, none⟩ = some (.int .i64 b.1)
  b1 : wr.cell? ⟨w.heap.size + 1, 1, none⟩ = some (.int .i64 b.2)
  bf : ∀ o, wr.frozen? ⟨w.heap.size + 1, o, none⟩ = false
  below : Below w.heap.size w wr
theorem BsSt.next {w wr W : World} {g k : Nat} {os : List OP} {b tgt : OP} (h : BsSt w wr g os k b tgt) (hb : Below wr.heap.size wr W) : BsSt w W g os k b tgt := by
  have h1 : w.heap.size + 1 < wr.heap.size := World.block_lt_of_cell? wr _ h.b0
  have h2 : w.heap.size < wr.heap.size := by omega
  exact ⟨h.kl, h.go, h.gl, h.row.below hb, ((bcell hb).1 _ _ h2).trans h.r0, ((bcell hb).1 _ _ h2).trans h.r1, fun o => ((bcell hb).2 _ _ h2).trans (h.rf o), ((bcell hb).1 _ _ h1).trans h.b0, ((bcell hb).1 _ _ h1).trans h.b1, fun o => ((bcell hb).2 _ _ h1).trans (h.bf o), below_next h.below hb⟩
theorem best_at {os : List OP} {k : Nat} {b x : OP} (hx : os[k]? = some x) : bestGo (os.drop k) b = bestGo (os.drop (k + 1)) (if x.2 > b.2 then x else b) := by
  obtain ⟨hk, he⟩ := List.getElem?_eq_some_iff.1 hx
  rw [List.drop_eq_getElem_cons hk, he]
  rfl
theorem BsSt.skip {w wr : World} {g k : Nat} {os : List OP} {b tgt x : OP} (h : BsSt w wr g os k b tgt) (hx : os[k]? = some x) (hn : ¬ x.2 > b.2) : BsSt w wr g os (k + 1) b tgt := by
  have h1 := h.go
  rw [best_at hx, if_neg hn] at h1
  exact ⟨(List.getElem?_eq_some_iff.1 hx).1, h1, h.gl, h.row, h.r0, h.r1, h.rf, h.b0, h.b1, h.bf, h.below⟩
theorem BsSt.put {w wr : World} {g k : Nat} {os : List OP} {b tgt x : OP} (h : BsSt w wr g os k b tgt) (hx : os[k]? = some x) (hn : x.2 > b.2) :
    BsSt w ((wr.setCell ⟨w.heap.size + 1, 0, none⟩ (.int .i64 x.1)).setCell ⟨w.heap.size + 1, 1, none⟩ (.int .i64 x.2)) g os (k + 1) x tgt := by
  have h1 := h.go
  have hg := h.gl
  rw [best_at hx, if_pos hn] at h1
  refine ⟨(List.getElem?_eq_some_iff.1 hx).1, h1, h.gl, (h.row.set (by omega) _ _).set (by omega) _ _, ?_, ?_, fun o => ?_, ?_, ?_, fun o => ?_, ?_⟩
  · rw [cell_other (by omega), cell_other (by omega)]; exact h.r0
  · rw [cell_other (by omega), cell_other (by omega)]; exact h.r1
  · simp [h.rf]
  · rw [cell_off (by omega)]; exact World.cell?_setCell_same _ _ _ h.b0
  · refine World.cell?_setCell_same _ _ (u := .int .i64 b.2) _ ?_
    rw [cell_off (by omega)]; exact h.b1
  · simp [h.bf]
  · exact (h.below.setCell (by simp) _).setCell (by simp) _
theorem best_start (w : World) (g : Nat) (os : List OP) (o : OP) (k : Nat) (tgt : OP) (hrow : BoxP g (ocells os) w) (hg : g < w.heap.size) (hk : k ≤ os.length) (hgo : bestGo (os.drop k) o = tgt) (t : TypeId) :
    BsSt w ((w.alloc (.cells #[.int .i64 0, .int .i64 0] t)).alloc (.cells #[.int .i64 o.1, .int .i64 o.2] t)) g os k o tgt := by
  have B := (below_alloc1 w (.cells #[.int .i64 0, .int .i64 0] t)).trans ((below_alloc1 _ (.cells #[.int .i64 o.1, .int .i64 o.2] t)).mono (by simp))
  have F := ((Fr.start w).allocF #[.int .i64 0, .int .i64 0] t).allocF #[.int .i64 o.1, .int .i64 o.2] t
  obtain ⟨x0, x1⟩ := F.at 0 rfl
  obtain ⟨y0, y1⟩ := F.at 1 rfl
  simp only [World.size_alloc] at x0 x1
  exact ⟨hk, hgo, hg, hrow.below B, y0 0 _ rfl, y0 1 _ rfl, y1, x0 0 _ rfl, x0 1 _ rfl, x1, B⟩

set_option maxRecDepth 100000 in
set_option maxHeartbeats 8000000 in
theorem bestOption_c (os : List OP) (o : OP) (l : List OP) (hos : os = o :: l) (g c : Nat) (w : World) (hrow : BoxP g (ocells os) w) (hg : g < w.heap.size) (hl : os.length ≤ 100) :
    Calls Try.prog 153 #[.slice (some ⟨g, 0, none⟩) os.length c] w fun e w' => e = .returned (.agg #[.int .i64 (bestGo l o).1, .int .i64 (bestGo l o).2]) ∧ Below w.heap.size w w' := by
  have hpos : 0 < os.length := by rw [hos]; simp
  have hp2 : (0 : Int) < (os.length : Int) := by omega
  have hst := best_start w g os o 0 (bestGo l o) hrow hg (by omega) (by rw [hos]; first | exact bestGo_self o l | rfl) 93
  obtain ⟨y, hy⟩ : ∃ y, y = bestGo l o := ⟨_, rfl⟩
  rw [← hy] at hst ⊢
  have HST0 := Lib.hid hst
  have k0 : w.cell? ⟨g, 0, none⟩ = some (.int .i64 o.1) := hrow 0 _ (by rw [hos]; rfl)
  have k1 : w.cell? ⟨g, 1, none⟩ = some (.int .i64 o.2) := hrow 1 _ (by rw [hos]; rfl)
  have k0' : w.cell? ⟨g, 0 * 2, none⟩ = some (.int .i64 o.1) := k0
  have k1' : w.cell? ⟨g, 0 * 2 + 1, none⟩ = some (.int .i64 o.2) := k1
  clear hst hy hos hrow
  go_enter Try.func153, Try.ntmps153
  go_wp2_with fail
  go_loopw [11] (fun i wr => ∃ (k : Nat) (b : OP), i = .int .i64 k ∧ BsSt w wr g os k b y) (fun i _ => os.length - (intOf i).toNat)
  case atStart => exact ⟨0, o, rfl, HST0.out⟩
  case round =>
    clear HST0 k0 k1 k0' k1'
    obtain ⟨k, b, rfl, hst⟩ := hrel
    have HST := Lib.hid hst
    have hkl := hst.kl
    obtain ⟨z0, z1, z2, z3, z4, z5⟩ := (⟨hst.r0, hst.r1, hst.rf, hst.b0, hst.b1, hst.bf⟩ : _ ∧ _ ∧ _ ∧ _ ∧ _ ∧ _)
    have hn1 : w.heap.size + 1 < wr.heap.size := World.block_lt_of_cell? wr _ z3
    have hn0 : w.heap.size < wr.heap.size := by omega
    clear hst
    by_cases hk : k < os.length
    case neg =>
      have HT : Hid (y = b) := by
        have h1 := HST.out.go
        rw [List.drop_eq_nil_of_le (by omega)] at h1
        exact h1.symm
      go_wp2
      refine bodyPost_ret (v := .agg #[.int .i64 b.1, .int .i64 b.2]) (by simp [results, Try.results153, go_sem, z0, z1, z2, hn0, hn1]) rfl ⟨by rw [HT.out], ?_⟩
      exact (HST.out.below.setCell (by simp) _).setCell (by simp) _
    obtain ⟨x, hx⟩ : ∃ x, os[k]? = some x := ⟨os[k], by simp [hk]⟩
    obtain ⟨e1, e2⟩ := ocells_get os k x hx
    have q0 : wr.cell? ⟨g, k * 2, none⟩ = some (.int .i64 x.1) := HST.out.row _ _ e1
    have q1 : wr.cell? ⟨g, k * 2 + 1, none⟩ = some (.int .i64 x.2) := HST.out.row _ _ e2
    have hgl : g < wr.heap.size := World.block_lt_of_cell? wr _ q0
    have hki : (k : Int) < (os.length : Int) := by omega
    have HX := Lib.hid hx
    clear hx e1 e2
    by_cases hgt : x.2 > b.2
    · have HGT := Lib.hid hgt
      go_wp2_with fail
      (try (go_quiet (fail); go_wp2_with fail))
      go_roundw
      case rel =>
        first
        | exact ⟨k + 1, x, by go_num, (HST.out.put HX.out HGT.out).next (below_alloc1 _ _)⟩
        | exact ⟨k + 1, x, by go_num, (HST.out.next (below_draws _ _ _)).put HX.out HGT.out⟩
        | exact ⟨k + 1, x, by go_num, (HST.out.put HX.out HGT.out).next (below_draws _ _ _)⟩
        | exact ⟨k + 1, x, by go_num, HST.out.put HX.out HGT.out⟩
      case measure => (simp [intOf]; omega)
    · have HGT := Lib.hid hgt
      go_wp2_with fail
      (try (go_quiet (fail); go_wp2_with fail))
      go_roundw
      case rel =>
        first
        | exact ⟨k + 1, b, by go_num, (HST.out.skip HX.out (by have := HGT.out; omega)).next (below_alloc1 _ _)⟩
        | exact ⟨k + 1, b, by go_num, (HST.out.skip HX.out (by have := HGT.out; omega)).next (below_draws _ _ _)⟩
        | exact ⟨k + 1, b, by go_num, HST.out.skip HX.out (by have := HGT.out; omega)⟩
      case measure => (simp [intOf]; omega)
set_option maxRecDepth 100000 in
set_option maxHeartbeats 8000000 in
theorem optionsCode_c (r : R) (p : P) (d : Int) (pa sa : Option Addr) (pc sc : Nat) (w : World) (h : PRow w p pa sa) (m1 : p.pits.length ≤ 16777216) (m2 : p.stores.length ≤ 16777216) (hc : p.pits.length ≤ pc) (hcm : pc ≤ maxLen) :
    Calls Try.prog 151 #[r.val, p.val pa pc sa sc, .int .i64 d] w fun e w' => e = .returned (.int .i64 (ocodeP r p d)) ∧ Below w.heap.size w w' := by
  have F0 := ((Fr.start w).alloc r.cells 25).alloc (p.cells pa pc sa sc) 67
  have HV := fun W (H : PRow W p pa sa) => ValidPosition_c r p pa sa pc sc W H m1 m2
  have HC := Lib.hid (fun W (H : PRow W p pa sa) => searchCode_c r p d pa sa pc sc W H m1 m2 hc hcm)
  obtain ⟨y, hy⟩ : ∃ y, y = ocodeP r p d := ⟨_, rfl⟩
  rw [← hy]
  obtain ⟨b, hb⟩ : ∃ b, b = p.ok r := ⟨_, rfl⟩
  simp only [← hb] at HV
  have HV := Lib.hid HV
  by_cases hd : b = true ∧ d = 0
  · obtain ⟨h1, h2⟩ := hd
    have HE : Hid (y = 2) := by unfold Hid; rw [hy, ocodeP, if_pos ⟨by rw [← hb]; exact h1, h2⟩]
    subst h1
    have hd0 : (d == 0) = true := by simpa using h2
    clear hy hb h2
    go_enter Try.func151, Try.ntmps151
    go_wp2_with fail
    refine (HV.out _ (h.below F0.below (Nat.le_refl _))).mono ?_
    rintro e w1 ⟨rfl, hb1⟩
    have F1 := F0.step hb1
    clear hb1 F0
    go_wp2
    go_ret
    rw [HE.out]
    exact ⟨rfl, F1.below⟩
  have HE : Hid (y = srchC r p d) := by unfold Hid; rw [hy, ocodeP, if_neg (fun e => hd ⟨by rw [hb]; exact e.1, e.2⟩)]
  cases b
  · clear hy hb hd
    go_enter Try.func151, Try.ntmps151
    go_wp2_with fail
    refine (HV.out _ (h.below F0.below (Nat.le_refl _))).mono ?_
    rintro e w1 ⟨rfl, hb1⟩
    have F1 := F0.step hb1
    obtain ⟨c0, c1, c2, c3, c4, c5, c6, c7, c8⟩ := R.boxc (F1.at 1 rfl)
    obtain ⟨e0, e1, e2⟩ := P.boxc (F1.at 0 rfl)
    have zA : w.heap.size < w1.heap.size := F1.le 1 rfl
    have zB : w.heap.size + 1 < w1.heap.size := by have := F1.le 0 rfl; simp at this; omega
    simp only [World.size_alloc] at e0 e1 e2
    clear hb1 F0
    go_wp2_with fail
    refine (HC.out _ (h.below F1.below (Nat.le_refl _))).mono ?_
    rintro e w2 ⟨rfl, hb2⟩
    have F2 := F1.step hb2
    clear hb2 F1
    go_wp2
    go_ret
    rw [HE.out]
    exact ⟨rfl, F2.below⟩
  · have hd0 : (d == 0) = false := by simpa using fun e => hd ⟨rfl, e⟩
    clear hy hb hd
    go_enter Try.func151, Try.ntmps151
    go_wp2_with fail
    refine (HV.out _ (h.below F0.below (Nat.le_refl _))).mono ?_
    rintro e w1 ⟨rfl, hb1⟩
    have F1 := F0.step hb1
    obtain ⟨c0, c1, c2, c3, c4, c5, c6, c7, c8⟩ := R.boxc (F1.at 1 rfl)
    obtain ⟨e0, e1, e2⟩ := P.boxc (F1.at 0 rfl)
    have zA : w.heap.size < w1.heap.size := F1.le 1 rfl
    have zB : w.heap.size + 1 < w1.heap.size := by have := F1.le 0 rfl; simp at this; omega
    simp only [World.size_alloc] at e0 e1 e2
    clear hb1 F0
    go_wp2_with fail
    refine (HC.out _ (h.below F1.below (Nat.le_refl _))).mono ?_
    rintro e w2 ⟨rfl, hb2⟩
    have F2 := F1.step hb2
    clear hb2 F1
    go_wp2
    go_ret
    rw [HE.out]
    exact ⟨rfl, F2.below⟩

theorem optsP_len {r : R} {p : P} (hok : p.ok r = true) (D : Nat) : (optsP r p D).length ≤ 8 := by
  have := allP_len8 hok
  simpa [optsP] using this
set_option maxRecDepth 100000 in
set_option maxHeartbeats 8000000 in
theorem iSearchMove_c (r : R) (p : P) (d : Int) (pa sa : Option Addr) (pc sc : Nat) (w : World) (h : PRow w p pa sa) (m1 : p.pits.length ≤ 16777216) (m2 : p.stores.length ≤ 16777216) (hc : p.pits.length ≤ pc) (hcm : pc ≤ maxLen) :
    Calls Try.prog 68 #[r.val, p.val pa pc sa sc, .int .i64 d] w fun e w' => e = .returned (.tuple #[.int .i64 (smoveP r p d).1, .int .i64 (smoveP r p d).2.1, .int .i64 (smoveP r p d).2.2]) ∧ Below w.heap.size w w' := by
  have F0 := ((Fr.start w).alloc r.cells 25).alloc (p.cells pa pc sa sc) 67
  have HC := fun W (H : PRow W p pa sa) => optionsCode_c r p d pa sa pc sc W H m1 m2 hc hcm
  obtain ⟨c, hcd⟩ : ∃ c, c = ocodeP r p d := ⟨_, rfl⟩
  rw [← hcd] at HC
  have HC := Lib.hid HC
  obtain ⟨y, hy⟩ : ∃ y, y = smoveP r p d := ⟨_, rfl⟩
  rw [← hy]
  by_cases hz : c = 0
  case neg =>
    have hz' : (c != 0) = true := by simpa using hz
    have HE : Hid (y = (0, 0, c)) := by unfold Hid; rw [hy, smoveP, ← hcd, if_neg hz]
    clear hcd hy hz
    go_enter Try.func68, Try.ntmps68
    go_wp2_with fail
    refine (HC.out _ (h.below F0.below (Nat.le_refl _))).mono ?_
    rintro e w1 ⟨rfl, hb1⟩
    have F1 := F0.step hb1
    clear hb1 F0
    go_wp2
    go_ret3
    rw [HE.out]
    exact ⟨rfl, F1.below⟩
  have hz' : (c != 0) = false := by simpa using hz
  obtain ⟨hok, hsc, D, hdD, hD, _⟩ := ocodeP_zero (by rw [← hcd]; exact hz)
  have HO := fun W (H : PRow W p pa sa) => options_c r p hok D hD pa sa pc sc W H hc hcm
  rw [← hdD] at HO
  have hlen := optsP_len hok D
  have HY : Hid (y = match optsP r p D with | [] => (0, 0, 3) | o :: l => ((bestGo l o).1, (bestGo l o).2, 0)) := by
    unfold Hid
    rw [hy, smoveP, ← hcd, if_pos hz, hdD, show ((D : Int) + 1).toNat - 1 = D by omega]
    all_goals (cases optsP r p D <;> rfl)
  obtain ⟨os, hos⟩ : ∃ os, os = optsP r p D := ⟨_, rfl⟩
  rw [← hos] at HO hlen HY
  have HO := Lib.hid HO
  clear hcd hy hz hok hsc hdD hos
  go_enter Try.func68, Try.ntmps68
  go_wp2_with fail
  refine (HC.out _ (h.below F0.below (Nat.le_refl _))).mono ?_
  rintro e w1 ⟨rfl, hb1⟩
  have F1 := F0.step hb1
  obtain ⟨c0, c1, c2, c3, c4, c5, c6, c7, c8⟩ := R.boxc (F1.at 1 rfl)
  obtain ⟨e0, e1, e2⟩ := P.boxc (F1.at 0 rfl)
  have zA : w.heap.size < w1.heap.size := F1.le 1 rfl
  have zB : w.heap.size + 1 < w1.heap.size := by have := F1.le 0 rfl; simp at this; omega
  simp only [World.size_alloc] at e0 e1 e2
  clear hb1 F0
  go_wp2_with fail
  refine (HO.out _ (h.below F1.below (Nat.le_refl _))).mono ?_
  rintro e w2 ⟨ad, cc, rfl, ho, hb2⟩
  have F2 := F1.step hb2
  have HB2 := Lib.hid F2.below
  clear hb2 F1 F2 c0 c1 c2 c3 c4 c5 c6 c7 c8 e0 e1 e2 zA zB
  cases os with
  | nil =>
    have HE : Hid (y = (0, 0, 3)) := HY.out
    go_wp2
    go_ret3
    rw [HE.out]
    exact ⟨rfl, HB2.out⟩
  | cons o l =>
    have HE : Hid (y = ((bestGo l o).1, (bestGo l o).2, 0)) := HY.out
    obtain ⟨g, rfl, hg0, hg1, hcs⟩ := opt_cells ho (by simp)
    have hrow : BoxP g (ocells (o :: l)) w2 := by
      intro j v hv
      have hl := ocells_len (o :: l)
      have hj : j < (o :: l).length * 2 := by
        rcases Nat.lt_or_ge j ((o :: l).length * 2) with h | h
        · exact h
        · rw [List.getElem?_eq_none (by omega)] at hv; cases hv
      rw [ho.cellAt j hj]
      exact hv
    have HB := Lib.hid (bestOption_c (o :: l) o l rfl g cc w2 hrow hg1 (by omega))
    have hln : (((o :: l).length : Int) == 0) = false := by simp; omega
    obtain ⟨n, hn⟩ : ∃ n, n = (o :: l).length := ⟨_, rfl⟩
    rw [← hn] at HB hln ⊢
    obtain ⟨b, hbd⟩ : ∃ b, b = bestGo l o := ⟨_, rfl⟩
    rw [← hbd] at HB HE
    clear ho hcs hrow hn hbd hlen
    go_wp2_with fail
    refine HB.out.mono ?_
    rintro e w3 ⟨rfl, hb3⟩
    have HB3 := Lib.hid (below_next HB2.out hb3)
    clear hb3
    go_wp2_with fail
    go_quiet (fail)
    go_wp2
    go_ret3
    rw [HE.out]
    exact ⟨rfl, HB3.out.trans (((below_alloc1 _ _).mono HB3.out.size).trans (below_draws _ _ _))⟩


end Go.Proofs.Ytbjdfgfebepacaa
