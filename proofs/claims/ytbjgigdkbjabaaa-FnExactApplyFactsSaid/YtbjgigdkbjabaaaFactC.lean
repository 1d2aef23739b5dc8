/- FactC: the facts of a move, done: the program's ApplyFacts. The contract holds for every argument, under the premises that it states. -/
import Derived.Test.YtbjgigdkbjabaaaFactB
import Derived.Test.YtbjgigdkbjabaaaView3
namespace Go.Proofs.Ytbjgigdkbjabaaa
set_option linter.unusedSimpArgs false
set_option linter.unusedVariables false
set_option linter.unnecessarySimpa false
open Go.RowKit Go.ChangeShapes Go.WideShapes Go.ChangeAt Go.Joins

theorem ai_start {r : R} {p : P} (h : p.ok r = true) : AI r 96 (p, 0) := by
  obtain ⟨hbd, ⟨pn, hpn, hpn1⟩, t, hB, ht0, ht⟩ := P.ok_parts h
  have := hbd.lo
  have := hbd.hi
  exact ⟨⟨by omega, by omega⟩, hB.lp, hB.ls, by simp only; omega, hB.bp ht, hB.bs ht, by simp, by simp, by omega⟩
theorem Fr.low {w0 w w' : World} {ls : List Res} (h : Fr w0 w ls) {B : Nat} (hb : Below B w w') (hw : w0.heap.size ≤ B) (hd : ∀ r ∈ ls, r.hi ≤ B) : Fr w0 w' ls :=
  ⟨h.below.trans (hb.mono hw), fun r hr => ⟨Nat.le_trans (h.res r hr).1 hb.size, (h.res r hr).2.1, (h.res r hr).2.1 w w' (h.res r hr).2.2 (fun k _ k2 => hb.block k (by have := hd r hr; omega))⟩⟩
theorem AfP.own {base low : Nat} {w : World} {B pg pc sg sc H : Nat} {s : P × Int} (h : AfP base w B pg pc sg sc H s) (hl : low ≤ base) : POwn w low s.1 (some ⟨pg, 0, none⟩) pc (some ⟨sg, 0, none⟩) sc :=
  ⟨ownsRow_le h.sn.op hl, ownsRow_le h.sn.os hl, .inr (by simp [Value.ownBlock]; exact h.sn.n1)⟩
theorem AfP.start {w1 : World} {lo base : Nat} {p : P} {pg pc sg sc : Nat} (h : POwn w1 lo p (some ⟨pg, 0, none⟩) pc (some ⟨sg, 0, none⟩) sc) (hl : base ≤ lo) (h1 : lo ≤ w1.heap.size) (e e' : TypeId) :
    AfP base ((w1.alloc (.cells #[.slice (some ⟨pg, 0, none⟩) p.pits.length pc, .slice (some ⟨sg, 0, none⟩) p.stores.length sc, .int .i64 p.player] e)).alloc (.cells #[.int .i64 0] e')) w1.heap.size pg pc sg sc (w1.heap.size + 1) (p, 0) := by
  have hpg := (h.pits.lt pg rfl).2
  have hsg := (h.stores.lt sg rfl).2
  have hne : ¬ pg = sg := fun e => by rcases h.apart with h | h <;> simp [Value.ownBlock] at h; exact h e
  have hb : Below w1.heap.size w1 ((w1.alloc (.cells #[.slice (some ⟨pg, 0, none⟩) p.pits.length pc, .slice (some ⟨sg, 0, none⟩) p.stores.length sc, .int .i64 p.player] e)).alloc (.cells #[.int .i64 0] e')) := below_alloc2 _ _ _
  have F := (((Fr.start w1).allocF #[.slice (some ⟨pg, 0, none⟩) p.pits.length pc, .slice (some ⟨sg, 0, none⟩) p.stores.length sc, .int .i64 p.player] e).allocF #[.int .i64 0] e')
  simp only [World.size_alloc] at F
  obtain ⟨bx, bf⟩ := F.at 1 rfl
  obtain ⟨cx, cf⟩ := F.at 0 rfl
  refine ⟨⟨bx 0 _ rfl, bx 1 _ rfl, ownsRow_le (own_below h.pits hb (Nat.le_refl _)) hl, ownsRow_le (own_below h.stores hb (Nat.le_refl _)) hl, by omega, hne, by omega, by omega⟩, bx 2 _ rfl, bf, cx 0 _ rfl, cf 0, by omega, by omega, by omega, by omega⟩
/-- a round of the replay -/
structure AfSt (w0 wr : World) (ls : List Res) (r : R) (fs : List Fc) (G : Option (P × Int)) (base B pg pc sg sc H k : Nat) (s : P × Int) : Prop where
  kl : k ≤ fs.length
  go : goF r (fs.drop k) s = G
  ai : AI r (96 * (k + 1)) s
  af : AfP base wr B pg pc sg sc H s
  fr : Fr w0 wr ls
/-- the end of the replay -/
def endF : Option (P × Int) → P × Int
  | none => (⟨[], [], 0⟩, 6)
  | some s => if s.2 = 0 then (s.1, 0) else (⟨[], [], 0⟩, 6)
theorem applyP_eq {r : R} {p : P} {fs : List Fc} (h : p.ok r = true) : applyP r p fs = if fs.length > 3000 then ((⟨[], [], 0⟩, 5) : P × Int) else endF (goF r fs (p, 0)) := by
  unfold applyP
  rw [if_neg (by rw [h]; simp)]
  cases goF r fs (p, 0) <;> rfl
theorem applyP_len (r : R) (p : P) (fs : List Fc) : (applyP r p fs).1.pits.length ≤ 1048576 ∧ (applyP r p fs).1.stores.length ≤ 1048576 := by
  have key : ∀ (l : List Fc) (s s' : P × Int) (T : Int), AI r T s → goF r l s = some s' → s'.1.pits.length ≤ 1048576 ∧ s'.1.stores.length ≤ 1048576 := by
    intro l
    induction l with
    | nil =>
      intro s s' T ha hg
      simp only [goF, Option.some.injEq] at hg
      subst hg
      have := ha.lp
      have := ha.ls
      have := ha.hr
      omega
    | cons f l ih =>
      intro s s' T ha hg
      rw [goF] at hg
      split at hg
      · cases hg
      · rename_i s2 h2
        exact ih _ _ _ (stepF_ai ha h2) hg
  unfold applyP
  split
  · simp
  rename_i hok
  split
  · simp
  split
  · simp
  · rename_i s hs
    have hk := key _ _ _ _ (ai_start (by simpa using hok)) hs
    split
    · exact hk
    · simp

set_option maxRecDepth 100000 in
set_option maxHeartbeats 16000000 in
theorem iApplyFacts_c (r : R) (p : P) (pa sa : Option Addr) (pc sc : Nat) (fa : Option Addr) (fc : Nat) (fs : List Fc) (w : World) (h : PRow w p pa sa) (m1 : p.pits.length ≤ 16777216) (m2 : p.stores.length ≤ 16777216)
    (hf : Row w fa (flat fcRL.f fs)) (hfm : fs.length ≤ maxLen) :
    Calls Try.prog 16 #[r.val, p.val pa pc sa sc, .slice fa fs.length fc] w (PvRes w (applyP r p fs)) := by
  have F0 := (((Fr.start w).alloc r.cells 33).alloc (p.cells pa pc sa sc) 30).allocF #[.slice none 0 0, .slice none 0 0, .int .i64 0] 30
  simp only [World.size_alloc] at F0
  have HP := Lib.hid (h.below F0.below (Nat.le_refl _))
  have HFS := Lib.hid hf
  have HV := Lib.hid (ValidPosition_c r p pa sa pc sc _ HP.out m1 m2)
  obtain ⟨Y, hY⟩ : ∃ Y, Y = applyP r p fs := ⟨_, rfl⟩
  rw [← hY]
  cases hok : p.ok r
  · have HE : Hid (Y = (⟨[], [], 0⟩, 1)) := by unfold Hid; rw [hY, applyP, hok]; rfl
    rw [hok] at HV
    clear hok h hY hf
    go_enter Try.func16, Try.ntmps16
    go_wp2_with fail
    refine HV.out.mono ?_
    rintro e wv ⟨rfl, hbv⟩
    have F0 := F0.step hbv
    clear hbv
    obtain ⟨bx, bf⟩ := F0.at 0 rfl
    obtain ⟨x0, x1, x2⟩ := (⟨bx 0 _ rfl, bx 1 _ rfl, bx 2 _ rfl⟩ : _ ∧ _ ∧ _)
    have zC : w.heap.size + 1 + 1 < wv.heap.size := F0.le 0 rfl
    have B1 := F0.below
    clear bx F0
    go_wp2
    refine bodyPost_ret (v := .tuple #[P.val ⟨[], [], 0⟩ none 0 none 0, .int .i64 1]) (by simp [results, Try.results16, go_sem, x0, x1, x2, bf, zC, P.val, P.cells]) rfl ?_
    rw [HE.out]
    refine ⟨⟨none, 0, none, 0⟩, rfl, ⟨World.ownsRow_nil _ _ _ _, World.ownsRow_nil _ _ _ _, .inl rfl⟩, ?_⟩
    repeat (first | (with_reducible exact B1) | ((with_reducible refine Below.setCell ?_ ?_ _); rotate_left; (simp <;> omega)) | (with_reducible refine Below.drew ?_))
  rw [hok] at HV
  have HE : Hid (Y = if fs.length > 3000 then ((⟨[], [], 0⟩, 5) : P × Int) else endF (goF r fs (p, 0))) := hY.trans (applyP_eq hok)
  have HAI := Lib.hid (ai_start hok)
  have HLP : Hid (0 < p.pits.length ∧ 0 < p.stores.length) := by
    have a := HAI.out.lp; have b := HAI.out.ls; have c := HAI.out.hr
    simp only at a b
    unfold Hid; omega
  clear hok h hY hf
  go_enter Try.func16, Try.ntmps16
  go_wp2_with fail
  refine HV.out.mono ?_
  rintro e wv ⟨rfl, hbv⟩
  have F1 := F0.step hbv
  have HPV := Lib.hid (HP.out.below hbv (Nat.le_refl _))
  obtain ⟨bx, bf⟩ := F1.at 0 rfl
  obtain ⟨x0, x1, x2⟩ := (⟨bx 0 _ rfl, bx 1 _ rfl, bx 2 _ rfl⟩ : _ ∧ _ ∧ _)
  obtain ⟨d0, d1, d2⟩ := P.boxc (F1.at 1 rfl)
  have zC : w.heap.size + 1 + 1 < wv.heap.size := F1.le 0 rfl
  clear hbv bx F0
  by_cases hl : fs.length > 3000
  · have hl' : (fs.length : Int) > 3000 := by omega
    have HE2 := Lib.hid (HE.out.trans (if_pos hl))
    have B1 := F1.below
    clear hl F1
    go_wp2
    refine bodyPost_ret (v := .tuple #[P.val ⟨[], [], 0⟩ none 0 none 0, .int .i64 5]) (by simp [results, Try.results16, go_sem, x0, x1, x2, bf, zC, P.val, P.cells]) rfl ?_
    rw [HE2.out]
    refine ⟨⟨none, 0, none, 0⟩, rfl, ⟨World.ownsRow_nil _ _ _ _, World.ownsRow_nil _ _ _ _, .inl rfl⟩, ?_⟩
    repeat (first | (with_reducible exact B1) | ((with_reducible refine Below.setCell ?_ ?_ _); rotate_left; (simp <;> omega)) | (with_reducible refine Below.drew ?_))
  have hl' : ¬ (fs.length : Int) > 3000 := by omega
  have HE2 := Lib.hid (HE.out.trans (if_neg hl))
  have hlN : fs.length ≤ 3000 := by omega
  clear hl HE
  go_wp2_with fail
  refine (copied_c p pa sa pc sc _ HPV.out m1 m2).mono ?_
  rintro e w1 ⟨pa1, pc1, sa1, sc1, rfl, ho, hb1⟩
  obtain ⟨pg, rfl, hp1, hp2⟩ := own_lt_n ho.pits HLP.out.1
  obtain ⟨sg, rfl, hs1, hs2⟩ := own_lt_n ho.stores HLP.out.2
  have hne : ¬ pg = sg := fun e => by rcases ho.apart with h | h <;> simp [Value.ownBlock] at h; exact h e
  have HO := Lib.hid ho
  have F2 := F1.step hb1
  clear ho hb1 F1 x0 x1 x2 bf d0 d1 d2
  have hb0 : w.heap.size + 1 + 1 + 1 ≤ wv.heap.size := zC
  have zD : w.heap.size + 1 + 1 < w1.heap.size := F2.le 0 rfl
  have zV : wv.heap.size ≤ w1.heap.size := by omega
  have HA0 := Lib.hid (AfP.start (base := w.heap.size + 1 + 1 + 1) HO.out hb0 zV 30 2)
  have F3 := F2.step (below_alloc2 w1 (.cells #[.slice (some ⟨pg, 0, none⟩) p.pits.length pc1, .slice (some ⟨sg, 0, none⟩) p.stores.length sc1, .int .i64 p.player] 30) (.cells #[.int .i64 0] 2))
  obtain ⟨B, hB⟩ : ∃ B, B = w1.heap.size := ⟨_, rfl⟩
  obtain ⟨W0, hW0⟩ : ∃ W, W = (w1.alloc (.cells #[.slice (some ⟨pg, 0, none⟩) p.pits.length pc1, .slice (some ⟨sg, 0, none⟩) p.stores.length sc1, .int .i64 p.player] 30)).alloc (.cells #[.int .i64 0] 2) := ⟨_, rfl⟩
  obtain ⟨G, hG⟩ : ∃ G, G = goF r fs (p, 0) := ⟨_, rfl⟩
  rw [← hB, ← hW0] at HA0
  rw [← hW0] at F3
  rw [← hG] at HE2
  have HS0 : Hid (AfSt w W0 _ r fs G (w.heap.size + 1 + 1 + 1) B pg pc1 sg sc1 (B + 1) 0 (p, 0)) := ⟨Nat.zero_le _, by rw [hG]; rfl, HAI.out, HA0.out, F3⟩
  clear HO hb0 zV zD HA0 F2 F3 hG HAI hp1 hp2 hs1 hs2 hne HPV HLP m1 m2 HP
  go_wp2
  rw [← hW0]
  simp only [← hB]
  clear hW0 hB
  go_loopw [25] (fun i wr => ∃ (k : Nat) (s : P × Int), i = .int .i64 k ∧ AfSt w wr _ r fs G (w.heap.size + 1 + 1 + 1) B pg pc1 sg sc1 (B + 1) k s) (fun i _ => fs.length - (intOf i).toNat)
  case atStart => exact ⟨0, (p, 0), rfl, HS0.out⟩
  case round =>
    clear HS0
    obtain ⟨k, s, rfl, hst⟩ := hrel
    have HST := Lib.hid hst
    have hkl := hst.kl
    obtain ⟨bx, bf⟩ := hst.fr.at 0 rfl
    obtain ⟨x0, x1, x2⟩ := (⟨bx 0 _ rfl, bx 1 _ rfl, bx 2 _ rfl⟩ : _ ∧ _ ∧ _)
    have zD : w.heap.size + 1 + 1 < wr.heap.size := hst.fr.le 0 rfl
    clear hst bx
    by_cases hk : k < fs.length
    case neg =>
      have hkI : ¬ (k : Int) < (fs.length : Int) := by omega
      have HG : Hid (G = some s) := by
        have h1 := HST.out.go
        rw [List.drop_eq_nil_of_le (by omega)] at h1
        exact h1.symm
      have a0 := HST.out.af.sn.c0
      have a1 := HST.out.af.sn.c1
      have a2 := HST.out.af.c2
      have a3 := HST.out.af.hc
      simp only [Nat.zero_add] at a0 a1
      have q1 : ¬ w.heap.size + 1 + 1 = B := by have := HST.out.af.sn.nb0; omega
      have hn0 := HST.out.ai.h0
      by_cases hz : s.2 = 0
      · have hz' : ¬ 0 < s.2 := by omega
        have HE3 : Hid (Y = (s.1, 0)) := by unfold Hid; rw [HE2.out, HG.out, endF, if_pos hz]
        clear hz hn0
        go_wp2
        refine bodyPost_ret (v := .tuple #[P.val s.1 (some ⟨pg, 0, none⟩) pc1 (some ⟨sg, 0, none⟩) sc1, .int .i64 0]) (by simp [results, Try.results16, go_sem, x0, x1, x2, bf, zD, P.val, P.cells]) rfl ?_
        rw [HE3.out]
        refine ⟨⟨some ⟨pg, 0, none⟩, pc1, some ⟨sg, 0, none⟩, sc1⟩, rfl, ?_, ?_⟩
        · have k0 := HST.out.af.own (low := w.heap.size + 1 + 1 + 1) (Nat.le_refl _)
          refine ⟨?_, ?_, k0.apart⟩
          · have k1 := k0.pits
            refine ownsRow_le (base := w.heap.size + 1 + 1 + 1) ?_ (by omega)
            repeat (first | (with_reducible exact k1) | ((with_reducible refine ownsRow_setCell_below ?_ ?_ _); rotate_left; (simp <;> omega)))
          · have k1 := k0.stores
            refine ownsRow_le (base := w.heap.size + 1 + 1 + 1) ?_ (by omega)
            repeat (first | (with_reducible exact k1) | ((with_reducible refine ownsRow_setCell_below ?_ ?_ _); rotate_left; (simp <;> omega)))
        · have B1 := HST.out.fr.below
          repeat (first | (with_reducible exact B1) | ((with_reducible refine Below.setCell ?_ ?_ _); rotate_left; (simp <;> omega)))
      · have hz' : 0 < s.2 := by omega
        have HE3 : Hid (Y = (⟨[], [], 0⟩, 6)) := by unfold Hid; rw [HE2.out, HG.out, endF, if_neg hz]
        clear hz hn0 a0 a1 a2
        go_wp2
        refine bodyPost_ret (v := .tuple #[P.val ⟨[], [], 0⟩ none 0 none 0, .int .i64 6]) (by simp [results, Try.results16, go_sem, x0, x1, x2, bf, zD, P.val, P.cells]) rfl ?_
        rw [HE3.out]
        refine ⟨⟨none, 0, none, 0⟩, rfl, ⟨World.ownsRow_nil _ _ _ _, World.ownsRow_nil _ _ _ _, .inl rfl⟩, ?_⟩
        have B1 := HST.out.fr.below
        repeat (first | (with_reducible exact B1) | ((with_reducible refine Below.setCell ?_ ?_ _); rotate_left; (simp <;> omega)))
    have hkI : (k : Int) < (fs.length : Int) := by omega
    obtain ⟨c0, c1, c2, c3, c4, c5, c6, c7, c8⟩ := R.boxc (HST.out.fr.at 2 rfl)
    obtain ⟨f, hf⟩ : ∃ f, f = fs[k] := ⟨_, rfl⟩
    obtain ⟨fb, fo, hfa, hfb, e0, e1, e2⟩ := fc_at (HFS.out.below HST.out.fr.below (Nat.le_refl _)) (show fs[k]? = some f by rw [hf]; simp [hk])
    subst hfa
    have HGO : Hid (G = match stepF r s f with | none => none | some s' => goF r (fs.drop (k + 1)) s') := by
      have h1 := HST.out.go
      rw [List.drop_eq_getElem_cons hk, ← hf] at h1
      exact h1.symm
    have hAT : 96 * ((k : Int) + 1) ≤ 1000000 := by omega
    have hAL := HST.out.ai
    have HNX := Lib.hid (fun s' (h : stepF r s f = some s') => stepF_ai hAL h)
    have HCX : Hid _ := fun W hW => apply_c r _ s f _ B pg pc1 sg sc1 (B + 1) W (HST.out.af.below hW) hAL hAT
    have zE : w.heap.size < wr.heap.size := by omega
    have zF : w.heap.size + 1 < wr.heap.size := by omega
    clear hf hAL hAT
    go_wp2_with fail
    refine (HCX.out _ (below_alloc1 _ _)).mono ?_
    rintro e w2 ⟨hb2, hres⟩
    have F2 := (HST.out.fr.step (below_alloc1 wr (.cells #[.int .i64 f.kind, .int .i64 f.place, .int .i64 f.count] 95))).low hb2 (by omega) (by simp <;> omega)
    obtain ⟨bx, bf⟩ := F2.at 0 rfl
    obtain ⟨x0, x1, x2⟩ := (⟨bx 0 _ rfl, bx 1 _ rfl, bx 2 _ rfl⟩ : _ ∧ _ ∧ _)
    have zD : w.heap.size + 1 + 1 < w2.heap.size := F2.le 0 rfl
    have HF := Lib.hid F2
    clear hb2 F2 HCX bx c0 c1 c2 c3 c4 c5 c6 c7 c8
    rcases hres with ⟨hs, rfl⟩ | ⟨s', hs, rfl, haf⟩
    · have HE3 : Hid (Y = (⟨[], [], 0⟩, 6)) := by unfold Hid; rw [HE2.out, HGO.out, hs]; rfl
      clear hs
      go_wp2
      refine bodyPost_ret (v := .tuple #[P.val ⟨[], [], 0⟩ none 0 none 0, .int .i64 6]) (by simp [results, Try.results16, go_sem, x0, x1, x2, bf, zD, P.val, P.cells]) rfl ?_
      rw [HE3.out]
      refine ⟨⟨none, 0, none, 0⟩, rfl, ⟨World.ownsRow_nil _ _ _ _, World.ownsRow_nil _ _ _ _, .inl rfl⟩, ?_⟩
      have B1 := HF.out.below
      repeat (first | (with_reducible exact B1) | ((with_reducible refine Below.setCell ?_ ?_ _); rotate_left; (simp <;> omega)))
    · have HG2 : Hid (goF r (fs.drop (k + 1)) s' = G) := by
        have h1 := HGO.out
        rw [hs] at h1
        exact h1.symm
      have HA2 := Lib.hid (HNX.out s' hs)
      have HA3 : Hid (AI r (96 * (((k + 1 : Nat) : Int) + 1)) s') := by
        have h1 := HA2.out
        have e : 96 * ((k : Int) + 1) + 96 = 96 * (((k + 1 : Nat) : Int) + 1) := by omega
        rw [e] at h1
        exact h1
      have HAF := Lib.hid haf
      clear hs haf HGO HNX
      go_wp2
      go_roundw
      case rel => exact ⟨k + 1, s', by go_num, by omega, HG2.out, HA3.out, HAF.out, HF.out⟩
      case measure => (simp [intOf]; omega)

end Go.Proofs.Ytbjgigdkbjabaaa
