/- MemE: a memory of one's own: both sides. Each contract holds for every argument, under the premises that it states. -/
import Derived.Test.YtbjgigdkbjabaaaMemD
namespace Go.Proofs.Ytbjgigdkbjabaaa
set_option linter.unusedSimpArgs false
set_option linter.unusedVariables false
set_option linter.unnecessarySimpa false
open Go.RowKit Go.ChangeShapes Go.WideShapes Go.ChangeAt Go.Joins

theorem addr_addM (b o j : Nat) : (⟨b, o, none⟩ : Addr).add j = ⟨b, o + j, none⟩ := by
  by_cases h : j = 0 <;> simp [Addr.add, h]
theorem BoxF.put {w : World} {b j0 : Nat} {cs : List Value} (h : BoxF b cs w) (hj : j0 < cs.length) (v : Value) : BoxF b (cs.set j0 v) (w.setCell ⟨b, j0, none⟩ v) := by
  refine ⟨fun j u hu => ?_, fun o => ?_⟩
  · by_cases e : j = j0
    · subst e
      rw [List.getElem?_set_self hj] at hu
      cases hu
      exact World.cell?_setCell_same _ _ (u := cs[j]) _ (h.1 j _ (List.getElem?_eq_getElem hj))
    · rw [List.getElem?_set_ne (by omega)] at hu
      exact (cell_off e).trans (h.1 j u hu)
  · simpa using h.2 o
theorem BoxF.grown {w w' : World} {b : Nat} {cs : List Value} {row : Option Nat} (h : BoxF b cs w) (hg : w.grownBy w' row) (hne : row ≠ some b) (hl : b < w.heap.size) : BoxF b cs w' :=
  BoxF.stab b cs w w' h (fun k h1 h2 => hg.block k (by omega) (fun e => hne (by rw [← e]; congr 1; omega)))
theorem BoxF.below {w w' : World} {b : Nat} {cs : List Value} (h : BoxF b cs w) (hb : Below w.heap.size w w') (hl : b < w.heap.size) : BoxF b cs w' :=
  BoxF.stab b cs w w' h (fun k h1 h2 => hb.block k (by omega))
/-- a round of the copy: the first k items stand in a list of the call's own, which lies in box ob -/
structure CpSt (w W0 wr : World) (base ob : Nat) (r : R) (l : List (Sl × SA)) (k : Nat) (m : List (Sl × SA)) (ad : Option Addr) (c : Nat) : Prop where
  ml : m.length = k
  mf : m.map Prod.fst = (l.take k).map Prod.fst
  pc : Pcs wr base (slRL.pcs ad c m)
  box : BoxF ob (meCells r ad m.length c).toList wr
  bl : Below w.heap.size w wr
  lo : ∀ b, b < base → ¬ b = ob → wr.heap[b]? = W0.heap[b]?
theorem CpSt.next {w W0 wr W3 w5 : World} {base ob k : Nat} {r : R} {l m : List (Sl × SA)} {ad : Option Addr} {c c5 g : Nat} {x : Sl} {A : SA} (h : CpSt w W0 wr base ob r l k m ad c) (hk : k < l.length) (hx : l[k].1 = x)
    (hob : ob < base) (hwo : w.heap.size ≤ ob) (hbase : base ≤ wr.heap.size) (hb3 : Below wr.heap.size wr W3) (hs3 : wr.heap.size < W3.heap.size) (ho3 : OwnI W3 (wr.heap.size + 1) A.qa A.qc x.pits)
    (ho5 : w5.ownsRow base 113 6 (.slice (some ⟨g, 0, none⟩) (m.length + 1) c5) (m.length + 1) (flat slRL.f m ++ (x.cells A).toList)) (hg5 : (W3.alloc (.cells (x.cells A) 113)).grownBy w5 (Value.slice ad m.length c).ownBlock) (hn5 : (Value.slice ad m.length c).ownBlock = some g ∨ (W3.alloc (.cells (x.cells A) 113)).heap.size ≤ g) :
    CpSt w W0 (w5.setCell ⟨ob, 9, none⟩ (.slice (some ⟨g, 0, none⟩) (m.length + 1) c5)) base ob r l (k + 1) (m ++ [(x, A)]) (some ⟨g, 0, none⟩) c5 := by
  have hb4 : Below wr.heap.size wr (W3.alloc (.cells (x.cells A) 113)) := hb3.trans ((below_alloc1 W3 _).mono hb3.size)
  have hp4 := pcs_below h.pc hb4
  have ho4 : OwnI (W3.alloc (.cells (x.cells A) 113)) (wr.heap.size + 1) A.qa A.qc x.pits := own_below ho3 (below_alloc1 W3 _) (Nat.le_refl _)
  have hs4 := (below_alloc1 W3 (.cells (x.cells A) 113)).size
  have hrow : ∀ q, (Value.slice ad m.length c).ownBlock = some q → base ≤ q := fun q hq => ((h.pc.all _ (List.mem_cons_self ..)).lt q hq).1
  have hp5 := Pcs.app (D := slRL) (x := (x, A)) hp4 (hi := wr.heap.size + 1) (fun q hq j hj => Nat.lt_succ_of_lt (h.pc.lts q hq j hj)) (by omega) (by omega) (fun q hq => by obtain rfl := List.mem_singleton.1 hq; exact ho4) (List.pairwise_singleton _ _) hg5 ho5 hn5
  have hobl : ob < wr.heap.size := by omega
  have hbx5 : BoxF ob (meCells r ad m.length c).toList w5 := (h.box.below hb4 hobl).grown hg5 (fun e => by have := hrow ob e; omega) (by omega)
  have hbw5 : Below w.heap.size w w5 := below_grown (below_next h.bl hb4) hg5 (fun q hq => by have := hrow q hq; omega)
  refine ⟨by rw [List.length_append, h.ml]; rfl, by rw [List.map_append, h.mf, List.take_succ_eq_append_getElem hk, List.map_append, ← hx]; rfl, hp5.setBelow hob _, ?_, hbw5.setCell hwo _, fun b hb hne => ?_⟩
  rotate_left
  · rw [Below.heap_setCell _ _ _ b hne, hg5.block b (by omega) (fun e => by have := hrow b e.symm; omega), hb4.block b (by omega)]
    exact h.lo b hb hne
  have := hbx5.put (j0 := 9) (by simp [meCells]) (.slice (some ⟨g, 0, none⟩) (m.length + 1) c5)
  rw [List.length_append]
  exact this

set_option maxRecDepth 100000 in
set_option maxHeartbeats 8000000 in
theorem mcopied_c (r : R) (l : List (Sl × SA)) (a : Option Addr) (c : Nat) (w : World) (h : SRows w a l) (hm : l.length ≤ 1000) (hq : ∀ x ∈ l, x.1.pits.length ≤ 1048576) :
    Calls Try.prog 77 #[meVal r a l.length c] w (MeRes w r (l.map Prod.fst)) := by
  obtain ⟨i0, hi, hz0, hz1, hz2⟩ := info_partsSl infoSl
  have HH := Lib.hid h
  have HQ := Lib.hid hq
  clear h hq
  have F0 := (((Fr.start w).alloc (meCells r a l.length c) 52).allocF #[.int .i64 0, .int .i64 0, .bool false, .bool false, .bool false, .bool false, .bool false, .int .i64 0, .int .i64 0, .slice none 0 0] 52).allocF (meCells r none 0 0) 52
  simp only [World.size_alloc] at F0
  simp only [meVal, meCells]
  go_enter Try.func77, Try.ntmps77
  go_upto_region 2 with fail
  go_wp2_with fail
  obtain ⟨W0, hW0⟩ : ∃ W, W = ((w.alloc (.cells #[.int .i64 r.pits, .int .i64 r.seeds, .bool r.stores, .bool r.skip, .bool r.relay, .bool r.feed, .bool r.again, .int .i64 r.capture, .int .i64 r.slam, .slice a l.length c] 52)).alloc (.cells #[.int .i64 0, .int .i64 0, .bool false, .bool false, .bool false, .bool false, .bool false, .int .i64 0, .int .i64 0, .slice none 0 0] 52)).alloc (.cells #[.int .i64 r.pits, .int .i64 r.seeds, .bool r.stores, .bool r.skip, .bool r.relay, .bool r.feed, .bool r.again, .int .i64 r.capture, .int .i64 r.slam, .slice none 0 0] 52) := ⟨_, rfl⟩
  rw [← hW0]
  simp only [meCells] at F0
  rw [← hW0] at F0
  have hbx := F0.at 1 rfl
  have HX : Hid (BoxF (w.heap.size + 1) [.int .i64 0, .int .i64 0, .bool false, .bool false, .bool false, .bool false, .bool false, .int .i64 0, .int .i64 0, .slice none 0 0] W0) := hbx
  have HZ : Hid (w.heap.size + 1 + 1 + 1 ≤ W0.heap.size) := F0.le 0 rfl
  have HST0 : Hid (CpSt w W0 W0 (w.heap.size + 1 + 1 + 1) (w.heap.size + 1 + 1) r l 0 [] none 0) := ⟨rfl, rfl, ⟨fun q hq => by obtain rfl := List.mem_singleton.1 hq; exact World.ownsRow_nil _ _ _ _, List.pairwise_singleton _ _⟩, F0.at 0 rfl, F0.below, fun _ _ _ => rfl⟩
  clear hW0 F0 hbx
  go_loopw [12] (fun i wr => ∃ (k : Nat) (m : List (Sl × SA)) (ad : Option Addr) (c' : Nat), i = .int .i64 k ∧ k ≤ l.length ∧ Hid (CpSt w W0 wr (w.heap.size + 1 + 1 + 1) (w.heap.size + 1 + 1) r l k m ad c')) (fun i _ => l.length - (intOf i).toNat)
  case atStart => exact ⟨0, [], none, 0, rfl, Nat.zero_le _, HST0⟩
  case round =>
    clear HST0
    obtain ⟨k, m, ad, c', rfl, hk, HST⟩ := hrel
    have hobox := HST.out.box
    obtain ⟨c0, c1, c2, c3, c4, c5, c6, c7, c8, c9⟩ := me_box hobox.1
    have hof := hobox.2
    have hsz : w.heap.size + 1 + 1 + 1 ≤ wr.heap.size := by
      have h1 : w.heap.size + 1 + 1 < wr.heap.size := World.block_lt_of_cell? wr _ c0
      omega
    by_cases hlt : k < l.length
    · have hkI : (k : Int) < (l.length : Int) := by omega
      have hs := HH.out.below HST.out.bl (Nat.le_refl _)
      obtain ⟨b, off, ha, hb, s0, s1, s2, s3, s4, s5⟩ := hs.at (k := k) (x := l[k]) (by simp [hlt])
      have HI := Lib.hid (hs.items l[k] (List.getElem_mem hlt))
      have HXQ := Lib.hid (HQ.out l[k] (List.getElem_mem hlt))
      have HL : Hid (∀ z : Sl × SA, z = l[k] → l[k].1 = z.1) := fun z hz => by rw [hz]
      obtain ⟨y, hy⟩ : ∃ y, y = l[k] := ⟨_, rfl⟩
      have HLX := Lib.hid (HL.out y hy)
      rw [← hy] at s0 s1 s2 s3 s4 s5 HI HXQ
      obtain ⟨x, ka⟩ := y
      dsimp only at s0 s1 s2 s3 s4 s5 HI HXQ HLX
      have HA := Lib.hid ha
      subst ha
      clear hy HL hs hobox
      have FV := (Fr.start wr).allocF #[.bool x.used, .slice ka.qa x.pits.length ka.qc, .int .i64 x.player, .int .i64 x.depth, .int .i64 x.value, .int .i64 x.bound] 113
      have HQC := Lib.hid (copyNumbers_c ka.qa ka.qc x.pits (wr.alloc (.cells #[.bool x.used, .slice ka.qa x.pits.length ka.qc, .int .i64 x.player, .int .i64 x.depth, .int .i64 x.value, .int .i64 x.bound] 113)) (HI.out.below FV.below (Nat.le_refl _)) (by have := HXQ.out; omega))
      go_wp2_with fail
      refine HQC.out.mono ?_
      rintro e w2 ⟨qa', qc', rfl, ho2, hb2⟩
      have F2 := FV.step hb2
      have hs2 : wr.heap.size < w2.heap.size := F2.le 0 rfl
      have B3 := (F2.at 0 rfl : BoxF _ _ _).put (j0 := 1) (by simp) (.slice qa' x.pits.length qc')
      have f2 := (F2.at 0 rfl : BoxF _ _ _).2
      have q1 : w2.cell? ⟨wr.heap.size, 1, none⟩ = some (.slice ka.qa x.pits.length ka.qc) := (F2.at 0 rfl : BoxF _ _ _).1 1 _ rfl
      have hb3 : Below wr.heap.size wr (w2.setCell ⟨wr.heap.size, 1, none⟩ (.slice qa' x.pits.length qc')) := F2.below.setCell (Nat.le_refl _) _
      have hs3 : wr.heap.size < (w2.setCell ⟨wr.heap.size, 1, none⟩ (.slice qa' x.pits.length qc')).heap.size := by simpa using hs2
      have ho3 : OwnI (w2.setCell ⟨wr.heap.size, 1, none⟩ (.slice qa' x.pits.length qc')) (wr.heap.size + 1) qa' qc' x.pits := ownsRow_setCell_below (by simpa using ho2) (Nat.lt_succ_self _) _
      obtain ⟨W3, hW3⟩ : ∃ W, W = w2.setCell ⟨wr.heap.size, 1, none⟩ (.slice qa' x.pits.length qc') := ⟨_, rfl⟩
      rw [← hW3] at B3 hb3 hs3 ho3
      have HW3 := Lib.hid hW3
      have HB3 := Lib.hid hb3
      have HS3 := Lib.hid hs3
      have HO3 := Lib.hid ho3
      have c39 : W3.cell? ⟨w.heap.size + 1 + 1, 9, none⟩ = some (.slice ad m.length c') := (hb3.cell (show (Addr.mk (w.heap.size + 1 + 1) 9 none).block < _ by show w.heap.size + 1 + 1 < wr.heap.size; omega)).trans c9
      obtain ⟨t0, t1, t2, t3, t4, t5⟩ : (W3.cell? ⟨wr.heap.size, 0, none⟩ = some (.bool x.used) ∧ W3.cell? ⟨wr.heap.size, 1, none⟩ = some (.slice (SA.mk qa' qc').qa x.pits.length (SA.mk qa' qc').qc) ∧ W3.cell? ⟨wr.heap.size, 2, none⟩ = some (.int .i64 x.player) ∧ W3.cell? ⟨wr.heap.size, 3, none⟩ = some (.int .i64 x.depth) ∧ W3.cell? ⟨wr.heap.size, 4, none⟩ = some (.int .i64 x.value) ∧ W3.cell? ⟨wr.heap.size, 5, none⟩ = some (.int .i64 x.bound)) := ⟨B3.1 0 _ rfl, B3.1 1 _ rfl, B3.1 2 _ rfl, B3.1 3 _ rfl, B3.1 4 _ rfl, B3.1 5 _ rfl⟩
      simp only at t1
      have hb4 : Below wr.heap.size wr (W3.alloc (.cells (x.cells ⟨qa', qc'⟩) 113)) := hb3.trans ((below_alloc1 W3 _).mono hb3.size)
      have HOWN : Hid ((W3.alloc (.cells (x.cells ⟨qa', qc'⟩) 113)).ownsRow (w.heap.size + 1 + 1 + 1) 113 6 (.slice ad m.length c') m.length (flat slRL.f m)) := (pcs_below HST.out.pc hb4).all _ (List.mem_cons_self ..)
      have HBX4 : Hid (BoxP W3.heap.size (x.cells ⟨qa', qc'⟩).toList (W3.alloc (.cells (x.cells ⟨qa', qc'⟩) 113))) := ((Fr.start W3).alloc (x.cells ⟨qa', qc'⟩) 113).at 0 rfl
      have HML := Lib.hid HST.out.ml
      have HB4 := Lib.hid hb4
      have HOB : Hid (BoxF (w.heap.size + 1 + 1) (meCells r ad m.length c').toList (W3.alloc (.cells (x.cells ⟨qa', qc'⟩) 113))) := HST.out.box.below hb4 (by omega)
      have HROW : Hid (∀ q, (Value.slice ad m.length c').ownBlock = some q → w.heap.size + 1 + 1 + 1 ≤ q) := fun q hq => ((HST.out.pc.all _ (List.mem_cons_self ..)).lt q hq).1
      clear hW3 hb3 hs3 ho3 B3 ho2 hb2 F2 FV hb4 HQC HI HXQ s0 s1 s2 s3 s4 s5 c0 c1 c2 c3 c4 c5 c6 c7 c8 c9 hof
      go_upto_region 6 with fail
      rw [← HW3.out]
      clear HW3 q1 f2 hs2
      go_wp2_with (at_builtin; refine wpList_append_own2 _ rfl _ _ 50 rfl (w.heap.size + 1 + 1 + 1) 113 i0 (.agg #[.bool false, .slice none 0 0, .int .i64 0, .int .i64 0, .int .i64 0, .int .i64 0]) 6 64 Try.underlying50 hi hz0 hz1 hz2 rfl (by decide) (.slice ad m.length c') m.length (flat slRL.f m) rfl HOWN.out ⟨W3.heap.size, 0, none⟩ 1 1 (x.cells ⟨qa', qc'⟩).toList rfl rfl (fun j u hu => by rw [addr_addM, Nat.zero_add]; exact HBX4.out j u hu) (by intro u hu; simp [Sl.cells] at hu; rcases hu with rfl | rfl | rfl | rfl | rfl | rfl <;> rfl) (by have := HML.out; unfold maxLen; omega) (by have := HML.out; omega) (by have := HS3.out; simp; omega) ?_)
      intro ad5 c5 w5 ho5 hg5 hn5
      obtain ⟨g, rfl, hg1, hg2⟩ := own_lt_n ho5 (by omega)
      have HN := Lib.hid (HST.out.next (A := ⟨qa', qc'⟩) (x := x) (g := g) (c5 := c5) (W3 := W3) (w5 := w5) hlt HLX.out (by omega) (by omega) hsz HB3.out HS3.out HO3.out ho5 hg5 (by have := hn5 g rfl; rw [World.size_alloc]; exact this))
      have hbf := HOB.out.grown hg5 (fun e => by have := HROW.out _ e; omega) (by have := HB4.out.size; omega)
      have z9 : w5.cell? ⟨w.heap.size + 1 + 1, 9, none⟩ = some (.slice ad m.length c') := hbf.1 9 _ rfl
      have zf := hbf.2
      clear hbf ho5 hg5 hn5 hg1 hg2 HST HOB HROW HOWN HBX4 t0 t1 t2 t3 t4 t5
      go_wp2
      go_roundw
      case rel => exact ⟨k + 1, _, _, _, by go_num, by omega, HN⟩
      case measure => simp [intOf]; omega
    · have hkI : ¬ (k : Int) < (l.length : Int) := by omega
      obtain rfl : k = l.length := by omega
      have hbz : BoxF (w.heap.size + 1) [.int .i64 0, .int .i64 0, .bool false, .bool false, .bool false, .bool false, .bool false, .int .i64 0, .int .i64 0, .slice none 0 0] wr := BoxF.stab _ _ W0 wr HX.out (fun b h1 h2 => HST.out.lo b (by omega) (by omega))
      obtain ⟨x0, x1, x2, x3, x4, x5, x6, x7, x8, x9⟩ := (⟨hbz.1 0 _ rfl, hbz.1 1 _ rfl, hbz.1 2 _ rfl, hbz.1 3 _ rfl, hbz.1 4 _ rfl, hbz.1 5 _ rfl, hbz.1 6 _ rfl, hbz.1 7 _ rfl, hbz.1 8 _ rfl, hbz.1 9 _ rfl⟩ : _ ∧ _ ∧ _ ∧ _ ∧ _ ∧ _ ∧ _ ∧ _ ∧ _ ∧ _)
      have xf := hbz.2
      have zB : w.heap.size + 1 < wr.heap.size := by omega
      have HMF : Hid (m.map Prod.fst = l.map Prod.fst) := by have := HST.out.mf; rw [List.take_length] at this; exact this
      clear hbz hobox
      go_wp2
      refine bodyPost_ret (v := meVal r ad m.length c') (by simp [results, Try.results77, go_sem, x0, x1, x2, x3, x4, x5, x6, x7, x8, x9, xf, zB, meVal, meCells]) rfl ⟨m, ad, c', HMF.out, rfl, ?_, ?_⟩
      · have k0 := HST.out.pc
        refine Pcs.le (base := w.heap.size + 1 + 1 + 1) ?_ (by omega)
        repeat (first | (with_reducible exact k0) | ((with_reducible refine Pcs.setBelow ?_ ?_ _); rotate_left; omega))
      · have k0 := HST.out.bl
        repeat (first | (with_reducible exact k0) | ((with_reducible refine Below.setCell ?_ ?_ _); rotate_left; (simp <;> omega)))

set_option maxRecDepth 100000 in
set_option maxHeartbeats 8000000 in
theorem l16Own_c (mb mo : Nat) (r : R) (l : List (Sl × SA)) (a : Option Addr) (c : Nat) (w : World) (hr : R.At w mb mo r) (h9 : w.cell? ⟨mb, mo + 9, none⟩ = some (.slice a l.length c)) (h : SRows w a l) (hm : l.length ≤ 1000) (hq : ∀ x ∈ l, x.1.pits.length ≤ 1048576) :
    Calls Try.prog 73 #[.pointer (some ⟨mb, mo, none⟩)] w (MeRes w r (l.map Prod.fst)) := by
  obtain ⟨i0, hi, hz0, hz1, hz2⟩ := info_partsSl infoSl
  have hmb : mb < w.heap.size := World.block_lt_of_cell? w _ h9
  have HC : Hid (∀ W, Below w.heap.size w W → R.At W mb mo r ∧ W.cell? ⟨mb, mo + 9, none⟩ = some (.slice a l.length c)) := fun W hW => by
    have hc := (bcell hW).1
    exact ⟨hr.below hW hmb, (hc _ _ hmb).trans h9⟩
  obtain ⟨r0, r1, r2, r3, r4, r5, r6, r7, r8⟩ := (⟨hr.c0, hr.c1, hr.c2, hr.c3, hr.c4, hr.c5, hr.c6, hr.c7, hr.c8⟩ : _ ∧ _ ∧ _ ∧ _ ∧ _ ∧ _ ∧ _ ∧ _ ∧ _)
  have HH := Lib.hid h
  have HQ := Lib.hid hq
  clear h hq
  have F0 := ((Fr.start w).allocF #[.int .i64 0, .int .i64 0, .bool false, .bool false, .bool false, .bool false, .bool false, .int .i64 0, .int .i64 0, .slice none 0 0] 52).allocF (meCells r none 0 0) 52
  simp only [World.size_alloc] at F0
  go_enter Try.func73, Try.ntmps73
  go_upto_region 2 with fail
  go_wp2_with fail
  obtain ⟨W0, hW0⟩ : ∃ W, W = (w.alloc (.cells #[.int .i64 0, .int .i64 0, .bool false, .bool false, .bool false, .bool false, .bool false, .int .i64 0, .int .i64 0, .slice none 0 0] 52)).alloc (.cells #[.int .i64 r.pits, .int .i64 r.seeds, .bool r.stores, .bool r.skip, .bool r.relay, .bool r.feed, .bool r.again, .int .i64 r.capture, .int .i64 r.slam, .slice none 0 0] 52) := ⟨_, rfl⟩
  rw [← hW0]
  simp only [meCells] at F0
  rw [← hW0] at F0
  have hbx := F0.at 1 rfl
  have HX : Hid (BoxF (w.heap.size) [.int .i64 0, .int .i64 0, .bool false, .bool false, .bool false, .bool false, .bool false, .int .i64 0, .int .i64 0, .slice none 0 0] W0) := hbx
  have HZ : Hid (w.heap.size + 1 + 1 ≤ W0.heap.size) := F0.le 0 rfl
  have HST0 : Hid (CpSt w W0 W0 (w.heap.size + 1 + 1) (w.heap.size + 1) r l 0 [] none 0) := ⟨rfl, rfl, ⟨fun q hq => by obtain rfl := List.mem_singleton.1 hq; exact World.ownsRow_nil _ _ _ _, List.pairwise_singleton _ _⟩, F0.at 0 rfl, F0.below, fun _ _ _ => rfl⟩
  clear hW0 F0 hbx r0 r1 r2 r3 r4 r5 r6 r7 r8 hr h9
  go_loopw [4] (fun i wr => ∃ (k : Nat) (m : List (Sl × SA)) (ad : Option Addr) (c' : Nat), i = .int .i64 k ∧ k ≤ l.length ∧ Hid (CpSt w W0 wr (w.heap.size + 1 + 1) (w.heap.size + 1) r l k m ad c')) (fun i _ => l.length - (intOf i).toNat)
  case atStart => exact ⟨0, [], none, 0, rfl, Nat.zero_le _, HST0⟩
  case round =>
    clear HST0
    obtain ⟨k, m, ad, c', rfl, hk, HST⟩ := hrel
    have hobox := HST.out.box
    obtain ⟨c0, c1, c2, c3, c4, c5, c6, c7, c8, c9⟩ := me_box hobox.1
    have hof := hobox.2
    have m9 := (HC.out _ HST.out.bl).2
    have hsz : w.heap.size + 1 + 1 ≤ wr.heap.size := by
      have h1 : w.heap.size + 1 < wr.heap.size := World.block_lt_of_cell? wr _ c0
      omega
    by_cases hlt : k < l.length
    · have hkI : (k : Int) < (l.length : Int) := by omega
      have hs := HH.out.below HST.out.bl (Nat.le_refl _)
      obtain ⟨b, off, ha, hb, s0, s1, s2, s3, s4, s5⟩ := hs.at (k := k) (x := l[k]) (by simp [hlt])
      have HI := Lib.hid (hs.items l[k] (List.getElem_mem hlt))
      have HXQ := Lib.hid (HQ.out l[k] (List.getElem_mem hlt))
      have HL : Hid (∀ z : Sl × SA, z = l[k] → l[k].1 = z.1) := fun z hz => by rw [hz]
      obtain ⟨y, hy⟩ : ∃ y, y = l[k] := ⟨_, rfl⟩
      have HLX := Lib.hid (HL.out y hy)
      rw [← hy] at s0 s1 s2 s3 s4 s5 HI HXQ
      obtain ⟨x, ka⟩ := y
      dsimp only at s0 s1 s2 s3 s4 s5 HI HXQ HLX
      have HA := Lib.hid ha
      subst ha
      clear hy HL hs hobox
      have FV := (Fr.start wr).allocF #[.bool x.used, .slice ka.qa x.pits.length ka.qc, .int .i64 x.player, .int .i64 x.depth, .int .i64 x.value, .int .i64 x.bound] 113
      have HQC := Lib.hid (l00Own_c ka.qa ka.qc x.pits (wr.alloc (.cells #[.bool x.used, .slice ka.qa x.pits.length ka.qc, .int .i64 x.player, .int .i64 x.depth, .int .i64 x.value, .int .i64 x.bound] 113)) (HI.out.below FV.below (Nat.le_refl _)) (by have := HXQ.out; omega))
      go_wp2_with fail
      refine HQC.out.mono ?_
      rintro e w2 ⟨qa', qc', rfl, ho2, hb2⟩
      have F2 := FV.step hb2
      have hs2 : wr.heap.size < w2.heap.size := F2.le 0 rfl
      have B3 := (F2.at 0 rfl : BoxF _ _ _).put (j0 := 1) (by simp) (.slice qa' x.pits.length qc')
      have f2 := (F2.at 0 rfl : BoxF _ _ _).2
      have q1 : w2.cell? ⟨wr.heap.size, 1, none⟩ = some (.slice ka.qa x.pits.length ka.qc) := (F2.at 0 rfl : BoxF _ _ _).1 1 _ rfl
      have hb3 : Below wr.heap.size wr (w2.setCell ⟨wr.heap.size, 1, none⟩ (.slice qa' x.pits.length qc')) := F2.below.setCell (Nat.le_refl _) _
      have hs3 : wr.heap.size < (w2.setCell ⟨wr.heap.size, 1, none⟩ (.slice qa' x.pits.length qc')).heap.size := by simpa using hs2
      have ho3 : OwnI (w2.setCell ⟨wr.heap.size, 1, none⟩ (.slice qa' x.pits.length qc')) (wr.heap.size + 1) qa' qc' x.pits := ownsRow_setCell_below (by simpa using ho2) (Nat.lt_succ_self _) _
      obtain ⟨W3, hW3⟩ : ∃ W, W = w2.setCell ⟨wr.heap.size, 1, none⟩ (.slice qa' x.pits.length qc') := ⟨_, rfl⟩
      rw [← hW3] at B3 hb3 hs3 ho3
      have HW3 := Lib.hid hW3
      have HB3 := Lib.hid hb3
      have HS3 := Lib.hid hs3
      have HO3 := Lib.hid ho3
      have c39 : W3.cell? ⟨w.heap.size + 1, 9, none⟩ = some (.slice ad m.length c') := (hb3.cell (show (Addr.mk (w.heap.size + 1) 9 none).block < _ by show w.heap.size + 1 < wr.heap.size; omega)).trans c9
      obtain ⟨t0, t1, t2, t3, t4, t5⟩ : (W3.cell? ⟨wr.heap.size, 0, none⟩ = some (.bool x.used) ∧ W3.cell? ⟨wr.heap.size, 1, none⟩ = some (.slice (SA.mk qa' qc').qa x.pits.length (SA.mk qa' qc').qc) ∧ W3.cell? ⟨wr.heap.size, 2, none⟩ = some (.int .i64 x.player) ∧ W3.cell? ⟨wr.heap.size, 3, none⟩ = some (.int .i64 x.depth) ∧ W3.cell? ⟨wr.heap.size, 4, none⟩ = some (.int .i64 x.value) ∧ W3.cell? ⟨wr.heap.size, 5, none⟩ = some (.int .i64 x.bound)) := ⟨B3.1 0 _ rfl, B3.1 1 _ rfl, B3.1 2 _ rfl, B3.1 3 _ rfl, B3.1 4 _ rfl, B3.1 5 _ rfl⟩
      simp only at t1
      have hb4 : Below wr.heap.size wr (W3.alloc (.cells (x.cells ⟨qa', qc'⟩) 113)) := hb3.trans ((below_alloc1 W3 _).mono hb3.size)
      have HOWN : Hid ((W3.alloc (.cells (x.cells ⟨qa', qc'⟩) 113)).ownsRow (w.heap.size + 1 + 1) 113 6 (.slice ad m.length c') m.length (flat slRL.f m)) := (pcs_below HST.out.pc hb4).all _ (List.mem_cons_self ..)
      have HBX4 : Hid (BoxP W3.heap.size (x.cells ⟨qa', qc'⟩).toList (W3.alloc (.cells (x.cells ⟨qa', qc'⟩) 113))) := ((Fr.start W3).alloc (x.cells ⟨qa', qc'⟩) 113).at 0 rfl
      have HML := Lib.hid HST.out.ml
      have HB4 := Lib.hid hb4
      have HOB : Hid (BoxF (w.heap.size + 1) (meCells r ad m.length c').toList (W3.alloc (.cells (x.cells ⟨qa', qc'⟩) 113))) := HST.out.box.below hb4 (by omega)
      have HROW : Hid (∀ q, (Value.slice ad m.length c').ownBlock = some q → w.heap.size + 1 + 1 ≤ q) := fun q hq => ((HST.out.pc.all _ (List.mem_cons_self ..)).lt q hq).1
      clear hW3 hb3 hs3 ho3 B3 ho2 hb2 F2 FV hb4 HQC HI HXQ s0 s1 s2 s3 s4 s5 c0 c1 c2 c3 c4 c5 c6 c7 c8 c9 hof
      go_upto_region 7 with fail
      rw [← HW3.out]
      clear HW3 q1 f2 hs2
      go_wp2_with (at_builtin; refine wpList_append_own2 _ rfl _ _ 50 rfl (w.heap.size + 1 + 1) 113 i0 (.agg #[.bool false, .slice none 0 0, .int .i64 0, .int .i64 0, .int .i64 0, .int .i64 0]) 6 64 Try.underlying50 hi hz0 hz1 hz2 rfl (by decide) (.slice ad m.length c') m.length (flat slRL.f m) rfl HOWN.out ⟨W3.heap.size, 0, none⟩ 1 1 (x.cells ⟨qa', qc'⟩).toList rfl rfl (fun j u hu => by rw [addr_addM, Nat.zero_add]; exact HBX4.out j u hu) (by intro u hu; simp [Sl.cells] at hu; rcases hu with rfl | rfl | rfl | rfl | rfl | rfl <;> rfl) (by have := HML.out; unfold maxLen; omega) (by have := HML.out; omega) (by have := HS3.out; simp; omega) ?_)
      intro ad5 c5 w5 ho5 hg5 hn5
      obtain ⟨g, rfl, hg1, hg2⟩ := own_lt_n ho5 (by omega)
      have HN := Lib.hid (HST.out.next (A := ⟨qa', qc'⟩) (x := x) (g := g) (c5 := c5) (W3 := W3) (w5 := w5) hlt HLX.out (by omega) (by omega) hsz HB3.out HS3.out HO3.out ho5 hg5 (by have := hn5 g rfl; rw [World.size_alloc]; exact this))
      have hbf := HOB.out.grown hg5 (fun e => by have := HROW.out _ e; omega) (by have := HB4.out.size; omega)
      have z9 : w5.cell? ⟨w.heap.size + 1, 9, none⟩ = some (.slice ad m.length c') := hbf.1 9 _ rfl
      have zf := hbf.2
      clear hbf ho5 hg5 hn5 hg1 hg2 HST HOB HROW HOWN HBX4 t0 t1 t2 t3 t4 t5
      go_wp2
      go_roundw
      case rel => exact ⟨k + 1, _, _, _, by go_num, by omega, HN⟩
      case measure => simp [intOf]; omega
    · have hkI : ¬ (k : Int) < (l.length : Int) := by omega
      obtain rfl : k = l.length := by omega
      have hbz : BoxF (w.heap.size) [.int .i64 0, .int .i64 0, .bool false, .bool false, .bool false, .bool false, .bool false, .int .i64 0, .int .i64 0, .slice none 0 0] wr := BoxF.stab _ _ W0 wr HX.out (fun b h1 h2 => HST.out.lo b (by omega) (by omega))
      obtain ⟨x0, x1, x2, x3, x4, x5, x6, x7, x8, x9⟩ := (⟨hbz.1 0 _ rfl, hbz.1 1 _ rfl, hbz.1 2 _ rfl, hbz.1 3 _ rfl, hbz.1 4 _ rfl, hbz.1 5 _ rfl, hbz.1 6 _ rfl, hbz.1 7 _ rfl, hbz.1 8 _ rfl, hbz.1 9 _ rfl⟩ : _ ∧ _ ∧ _ ∧ _ ∧ _ ∧ _ ∧ _ ∧ _ ∧ _ ∧ _)
      have xf := hbz.2
      have zB : w.heap.size < wr.heap.size := by omega
      have HMF : Hid (m.map Prod.fst = l.map Prod.fst) := by have := HST.out.mf; rw [List.take_length] at this; exact this
      clear hbz hobox
      go_wp2
      refine bodyPost_ret (v := meVal r ad m.length c') (by simp [results, Try.results73, go_sem, x0, x1, x2, x3, x4, x5, x6, x7, x8, x9, xf, zB, meVal, meCells]) rfl ⟨m, ad, c', HMF.out, rfl, ?_, ?_⟩
      · have k0 := HST.out.pc
        refine Pcs.le (base := w.heap.size + 1 + 1) ?_ (by omega)
        repeat (first | (with_reducible exact k0) | ((with_reducible refine Pcs.setBelow ?_ ?_ _); rotate_left; omega))
      · have k0 := HST.out.bl
        repeat (first | (with_reducible exact k0) | ((with_reducible refine Below.setCell ?_ ?_ _); rotate_left; (simp <;> omega)))

end Go.Proofs.Ytbjgigdkbjabaaa
