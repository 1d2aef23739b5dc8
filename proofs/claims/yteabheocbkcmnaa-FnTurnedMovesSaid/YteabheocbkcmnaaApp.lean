/- App: append to a row of the call's own: where the new row lies. Holds under the premises that the statement names. -/
import Derived.Test.YteabheocbkcmnaaCore0
import Derived.OwnWalk
import Derived.ArgAppend
namespace Go.Proofs.Yteabheocbkcmnaa
set_option linter.unusedSimpArgs false
set_option linter.unusedVariables false
set_option linter.unnecessarySimpa false
open Go.RowKit Go.ChangeShapes Go.WideShapes Go.ChangeAt Go.Joins

theorem wpList_append_own2 {P : Program} (w : World) {ops : Array Oper} {rest : List Oper} {o : Oper} {a : Act} {Q : Exit → Act → World → Prop} (hgd : o.guard = none) (s x : Operand) (t : TypeId)
    (ho : o.op = .call { callee := .builtin .append, args := #[s, x], argTypes := #[t, t] })
    (base : Nat) (e : TypeId) (i : TypeInfo) (z : Value) (size bytes : Nat) (ht : P.underlying t = some (.slice e)) (hi : P.info? e = some i) (hz : i.zero = some z)
    (hsize : i.size = size) (hby : i.bytes = bytes) (hzs : z.cells.size = size) (hsz : 0 < size)
    (v : Value) (n : Nat) (xs : List Value) (hs : a.eval s = v) (hown : w.ownsRow base e size v n xs)
    (ad : Addr) (m c : Nat) (news : List Value) (hx : a.eval x = .slice (some ad) m c) (hl : news.length = m * size) (hnews : ∀ j u, news[j]? = some u → w.cell? (ad.add j) = some u) (h1 : ∀ u ∈ news, u.oneCell' = true)
    (h63 : n + m ≤ maxLen) (hbytes : (n + m) * bytes ≤ 140737488355328) (hbase : base ≤ w.heap.size)
    (h : ∀ ad' c' w', w'.ownsRow base e size (.slice ad' (n + m) c') (n + m) (xs ++ news) → w.grownBy w' v.ownBlock → (∀ k, (Value.slice ad' (n + m) c').ownBlock = some k → v.ownBlock = some k ∨ w.heap.size ≤ k) → wpList P ops Q rest (a.put o.dst (.slice ad' (n + m) c')) w') : wpList P ops Q (o :: rest) a w := by
  have hxl := hown.1
  obtain ⟨_, h2 | ⟨g, cap, cur, hv, hb, hg, hn, hm, hcs, ht2⟩⟩ := hown
  · obtain ⟨rfl, rfl⟩ := h2
    have hx0 : xs = [] := List.eq_nil_of_length_eq_zero (by simpa using hxl)
    subst hx0
    refine wpList_append_own w hgd s x t ho w.heap.size e i z size bytes ht hi hz hsize hby hzs hsz _ 0 [] hs (World.ownsRow_nil _ _ _ _) ad m c news hx hl hnews h1 h63 hbytes (Nat.le_refl _) fun v' w' o1 o2 _ => ?_
    obtain ⟨ad', c', rfl⟩ := own_form o1
    exact h ad' c' w' (ownsRow_le o1 hbase) o2 (fun k hk => .inr (o1.lt k hk).1)
  · have hown : w.ownsRow base e size v n xs := ⟨hxl, .inr ⟨g, cap, cur, hv, hb, hg, hn, hm, hcs, ht2⟩⟩
    subst hv
    by_cases hr : n + m ≤ cap
    · refine wpList_append_fits w hgd s x t ho base e i size ht hi hsize g n cap xs hs hown ad m c news hx hl hnews h1 hr fun w' o1 o2 => ?_
      exact h _ _ w' o1 o2 (fun k hk => .inl (by simpa [Value.ownBlock] using hk))
    · refine wpList_append_grows w hgd s x t ho e i z size bytes ht hi hz hsize hby hzs hsz (some ⟨g, 0, none⟩) n cap xs hs (fun e => by cases e) hxl (fun b hb' => by cases hb'; exact fun j u hu => hown.cells rfl j u hu) ad m c news hx hl hnews h1 (by omega) h63 hbytes fun v' w' o1 o2 => ?_
      obtain ⟨ad', c', rfl⟩ := own_form o1
      exact h ad' c' w' (ownsRow_le o1 hbase) ⟨o2.os, o2.tape, o2.output, o2.size, fun k hk _ => o2.block k hk (by simp)⟩ (fun k hk => .inr (o1.lt k hk).1)

end Go.Proofs.Yteabheocbkcmnaa
