/- Tab10: rows of a table, sorted by the library's front. Each contract holds for every argument, under the premises that it states. -/
import Derived.Test.YtbjgigdkbjabaaaTab9
import Derived.Lib.ReflectliteSlice
namespace Go.Proofs.Ytbjgigdkbjabaaa
set_option linter.unusedSimpArgs false
set_option linter.unusedVariables false
set_option linter.unnecessarySimpa false
open Go.RowKit Go.ChangeShapes Go.WideShapes Go.ChangeAt Go.Joins

theorem rowsInfo : ∃ i, Try.prog.info? 65 = some i ∧ i.desc = .slice 84 := by
  have h : (Try.prog.info? 65).map (·.desc) = some (.slice 84) := by kernel_rfl
  obtain ⟨ie, h1, h2⟩ := Option.map_eq_some_iff.1 h
  exact ⟨ie, h1, h2⟩
theorem rowInfo2 : ∃ ie, Try.prog.info? 84 = some ie ∧ ie.hasPointers = false ∧ ie.bytes = 48 := by
  have h : (Try.prog.info? 84).map (fun i => (i.hasPointers, i.bytes)) = some (false, 48) := by kernel_rfl
  obtain ⟨ie, h1, h2⟩ := Option.map_eq_some_iff.1 h
  simp only [Prod.mk.injEq] at h2
  exact ⟨ie, h1, h2.1, h2.2⟩
theorem rowKind (w : World) : (Extern.Rtype.kind 84).run Try.prog w = .ok 25 w := by kernel_rfl
theorem rowsUnpacked : Try.prog.packed 65 = false := by kernel_rfl
theorem row_swapperK {ie : TypeInfo} (h1 : ie.hasPointers = false) (h2 : ie.bytes = 48) {n : Nat} (hn : 2 ≤ n) : Lib.swapperK n ie 25 = 9 := by
  unfold Lib.swapperK
  have e0 : (n == 0) = false := by simp; omega
  have e1 : (n == 1) = false := by simp; omega
  rw [h1, h2, e0, e1]
  rfl
theorem swap9 : Try.prog.funcs.findIdx? (·.name == "internal/reflectlite" ++ ".Swapper$" ++ toString 9) = some 172 := by kernel_rfl
theorem lenLit (args : Array Value) (w : World) : (callFunc 142 args).run Try.prog w = ((Extern.ReflectliteValue.method (Extern.ReflectliteValue.valueError "reflectlite.Value.Len" 0) Extern.ReflectliteValue.len args).run Try.prog w).andThen fun v w' => .ok (.value v) w' :=
  run_callFunc_extern Try.func142 (by kernel_rfl) (by kernel_rfl) (by kernel_rfl) (by kernel_rfl) args w
theorem valLit (args : Array Value) (w : World) : (callFunc 139 args).run Try.prog w = ((fun args : Array Value => Extern.ReflectliteValue.unpack (args.getD 0 (.tuple #[]))) args |>.run Try.prog w).andThen fun v w' => .ok (.value v) w' :=
  run_callFunc_extern Try.func139 (by kernel_rfl) (by kernel_rfl) (by kernel_rfl) (e := fun args => Extern.ReflectliteValue.unpack (args.getD 0 (.tuple #[]))) (by kernel_rfl) args w
theorem swpLit (args : Array Value) (w : World) : (callFunc 140 args).run Try.prog w = ((Extern.ReflectliteSwapper.swapper "internal/reflectlite" (Extern.ReflectliteValue.valueError "Swapper") args).run Try.prog w).andThen fun v w' => .ok (.value v) w' :=
  run_callFunc_extern Try.func140 (by kernel_rfl) (by kernel_rfl) (by kernel_rfl) (by kernel_rfl) args w
theorem val_run (g n c : Nat) (w : World) : (callFunc 139 #[.iface 65 (.slice (some ⟨g, 0, none⟩) n c)]).run Try.prog w = .ok (.value (.agg #[typeHandle Try.prog 65, .pointer (some ⟨w.heap.size, 0, none⟩), .int .u64 151])) (w.alloc (.cells #[.slice (some ⟨g, 0, none⟩) n c] 65)) := by
  obtain ⟨i, hi, hd⟩ := rowsInfo
  rw [valLit]
  have hv := Lib.run_valueOf_slice (P := Try.prog) 65 84 i hi hd (some ⟨g, 0, none⟩) n c w
  show (Result.andThen (Sem.run Try.prog (Extern.ReflectliteValue.unpack (.iface 65 (.slice (some ⟨g, 0, none⟩) n c))) w) _) = _
  rw [hv]
  rfl
theorem swp_run (g n c : Nat) (hn : 2 ≤ n) (w : World) : (callFunc 140 #[.iface 65 (.slice (some ⟨g, 0, none⟩) n c)]).run Try.prog w = .ok (.value (.func (.func 172) #[] (swB g n c))) w := by
  obtain ⟨i, hi, hd⟩ := rowsInfo
  obtain ⟨ie, hie, h1, h2⟩ := rowInfo2
  have hk := row_swapperK h1 h2 hn
  have hs := Lib.run_swapper_slice (P := Try.prog) 65 84 i ie hi hd hie 25 rowKind (some ⟨g, 0, none⟩) n c 172 (by rw [hk]; exact swap9) w
  rw [swpLit, hs, hk]
  rfl
theorem len_run (g n c : Nat) (a : Addr) (w : World) (ha : w.cell? a = some (.slice (some ⟨g, 0, none⟩) n c)) : (callFunc 142 #[.agg #[typeHandle Try.prog 65, .pointer (some a), .int .u64 151]]).run Try.prog w = .ok (.value (.int .i64 n)) w := by
  obtain ⟨i, hi, hd⟩ := rowsInfo
  rw [lenLit, Lib.run_valueLen_slice (P := Try.prog) 65 84 i hi hd rowsUnpacked a (some ⟨g, 0, none⟩) n c w ha]
  rfl

set_option maxRecDepth 100000 in
set_option maxHeartbeats 8000000 in
theorem sliceStable_c (lo hi ob g c : Nat) (l : List Rw) (w : World) (h : RsSt w lo hi ob g c l) (hl : 2 ≤ l.length ∧ l.length ≤ 12) (hhi : hi ≤ w.heap.size) :
    Calls Try.prog 92 #[.iface 65 (.slice (some ⟨g, 0, none⟩) l.length c), .func (.func 93) #[] (capR ob)] w fun e w' => e = .returned (.tuple #[]) ∧ RsSt w' lo hi ob g c (srtR l) ∧ ∃ W0, Below w.heap.size w W0 ∧ Chg lo hi W0 w' := by
  have hv := val_run g l.length c
  have hln := len_run g l.length c
  simp only [typeHandle] at hv hln
  obtain ⟨G, hG⟩ : ∃ G, G = Try.prog.globals.size := ⟨_, rfl⟩
  rw [← hG] at hv hln
  have HV := Lib.hid hv
  have HLN := Lib.hid hln
  have HS := Lib.hid (swp_run g l.length c hl.1)
  have FB := ((Fr.start w).alloc #[.slice (some ⟨g, 0, none⟩) l.length c] 65).alloc #[.pointer (some ⟨G, 65, none⟩), .pointer (some ⟨w.heap.size, 0, none⟩), .int .u64 151] 182
  obtain ⟨W0, hW0⟩ : ∃ W, W = (w.alloc (.cells #[.slice (some ⟨g, 0, none⟩) l.length c] 65)).alloc (.cells #[.pointer (some ⟨G, 65, none⟩), .pointer (some ⟨w.heap.size, 0, none⟩), .int .u64 151] 182) := ⟨_, rfl⟩
  rw [← hW0] at FB
  have HC := Lib.hid (stable_c lo hi ob g c l W0 (h.below FB.below) ⟨by omega, hl.2⟩ (Nat.le_trans hhi FB.below.size))
  have HF := Lib.hid FB
  have HW0 := Lib.hid hW0
  have hsl : W0.cell? ⟨w.heap.size, 0, none⟩ = some (.slice (some ⟨g, 0, none⟩) l.length c) := FB.at 1 rfl 0 _ rfl
  obtain ⟨hl1, hl2⟩ := hl
  clear FB hW0 h hhi hv hln hG
  go_enter Try.func92, Try.ntmps92
  go_wp2
  rw [HV.out, Oper.upon_value]
  go_wp2
  rw [HS.out, Oper.upon_value]
  go_wp2
  rw [← HW0.out, HLN.out _ _ hsl, Oper.upon_value]
  clear hsl HV HS HLN
  go_wp2_with fail
  refine HC.out.mono ?_
  rintro e w3 ⟨rfl, hst, V, hV, hc⟩
  have HE : Hid (RsSt w3 lo hi ob g c (srtR l) ∧ ∃ W0, Below w.heap.size w W0 ∧ Chg lo hi W0 w3) := ⟨hst, V, HF.out.below.trans (hV.mono HF.out.below.size), hc⟩
  clear hst hV hc HW0
  go_wp2
  go_end0
  exact ⟨rfl, HE.out⟩

end Go.Proofs.Ytbjgigdkbjabaaa
