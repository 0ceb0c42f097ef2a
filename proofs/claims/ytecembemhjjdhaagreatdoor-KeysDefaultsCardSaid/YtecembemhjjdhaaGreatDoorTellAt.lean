/- What api.Tell tells of an error at a place. -/
import Derived.Test.YtecembemhjjdhaaGreatDoorTell2
namespace Go.Proofs.YtecembemhjjdhaaGreatDoor
open Go.RowKit Go.Extern.Stop Go.Stop Go.Extern
set_option linter.unusedVariables false
theorem typeOfA (v : Value) (w : World) : (ReflectliteType.typeOf #[.iface 153 v]).run Tryz.prog w = .ok (.iface 242 (.agg #[.pointer (some ⟨13, 153, none⟩)])) w := by kernel_rfl
theorem assignableA (w : World) : (ReflectliteType.relation "AssignableTo" ReflectliteType.assignableTo #[.agg #[.pointer (some ⟨13, 153, none⟩)], .iface 242 (.agg #[.pointer (some ⟨13, 31, none⟩)])]).run Tryz.prog w = .ok (.bool false) w := by kernel_rfl
theorem methodUnwrapA (v : Value) (w : World) : (Go.method 441 153 v "Unwrap").run Tryz.prog w = .ok (227, v) w := by kernel_rfl
theorem assertAsA (v : Value) (xT : TypeId) (w : World) : (Instr.typeAssert (.iface 153 v) xT 247 true).run Tryz.prog w = .ok (.tuple #[.nilIface, .bool false]) w := run_typeAssert_lacksB Tryz.underlying247 (by kernel_rfl) (by kernel_rfl) v xT w
theorem assertUnwrapA (v : Value) (xT : TypeId) (w : World) : (Instr.typeAssert (.iface 153 v) xT 250 true).run Tryz.prog w = .ok (.tuple #[.iface 153 v, .bool true]) w := by kernel_rfl
theorem unwrap_any (g : Nat) (c p : Int) (w : World) (h : w.cell? ⟨g, 0, none⟩ = some (.int .i64 c)) : Calls Tryz.prog 227 #[.pointer (some ⟨g, 0, none⟩)] w fun e w' => e = .returned (.iface 31 (.int .i64 c)) ∧ w = w' := by
  go_enter Tryz.func227, Tryz.ntmps227
  go_wp2
  go_ret
  exact ⟨rfl, rfl⟩
set_option maxHeartbeats 1000000 in
theorem as_at (k p : Int) (g : Nat) (t : Addr) (old : Value) (w : World) (hg : LaidE w) (hB : w.cell? ⟨g, 0, none⟩ = some (.int .i64 k)) (ht0 : w.cell? t = some old) (hf0 : w.frozen? t = false) :
    Calls Tryz.prog 79 #[.iface 153 (.pointer (some ⟨g, 0, none⟩)), .iface 130 (.pointer (some t))] w fun ev w' => ev = .returned (.bool true) ∧
      w' = ((((w.alloc (boxP t)).alloc (boxV ⟨w.heap.size, 0, none⟩)).alloc (boxV ⟨w.heap.size, 0, none⟩)).alloc (.cells #[.int .i64 k] 31)).setCell t (.int .i64 k) := by
  have hlt := hg.lt
  have htl : t.block < w.heap.size := by
    rcases Nat.lt_or_ge t.block w.heap.size with h | h
    · exact h
    · simp [World.cell?, Array.getElem?_eq_none h] at ht0
  have hgl : g < w.heap.size := by
    rcases Nat.lt_or_ge g w.heap.size with h | h
    · exact h
    · simp [World.cell?, Array.getElem?_eq_none h] at hB
  have x1 := @run_callFunc_extern Tryz.prog 124 _ (fun args => ReflectliteValue.unpack (args.getD 0 (.tuple #[]))) Tryz.func124 (by kernel_rfl) (by kernel_rfl) (by kernel_rfl) (by kernel_rfl)
  have x2 := @run_callFunc_extern Tryz.prog 125 _ (ReflectliteValue.methodAny (ReflectliteValue.valueError "reflectlite.Value.Type" 0) (fun t _ _ _ => ReflectliteType.toType t)) Tryz.func125 (by kernel_rfl) (by kernel_rfl) (by kernel_rfl) (by kernel_rfl)
  have x3 := @run_callFunc_extern Tryz.prog 126 _ (ReflectliteValue.method (ReflectliteValue.valueError "reflectlite.Value.IsNil" 0) ReflectliteValue.isNil) Tryz.func126 (by kernel_rfl) (by kernel_rfl) (by kernel_rfl) (by kernel_rfl)
  have x4 := @run_callFunc_extern Tryz.prog 221 _ (ReflectliteType.abiMethod fun t => do pure (.int .u8 (← Rtype.kind t))) Tryz.func221 (by kernel_rfl) (by kernel_rfl) (by kernel_rfl) (by kernel_rfl)
  have x5 := @run_callFunc_extern Tryz.prog 238 _ (ReflectliteType.method ReflectliteType.elem) Tryz.func238 (by kernel_rfl) (by kernel_rfl) (by kernel_rfl) (by kernel_rfl)
  have x6 := @run_callFunc_extern Tryz.prog 239 _ (ReflectliteType.relation "Implements" ReflectliteType.implements_) Tryz.func239 (by kernel_rfl) (by kernel_rfl) (by kernel_rfl) (by kernel_rfl)
  have x7 := @run_callFunc_extern Tryz.prog 162 _ ReflectliteType.typeOf Tryz.func162 (by kernel_rfl) (by kernel_rfl) (by kernel_rfl) (by kernel_rfl)
  have x8 := @run_callFunc_extern Tryz.prog 236 _ (ReflectliteType.relation "AssignableTo" ReflectliteType.assignableTo) Tryz.func236 (by kernel_rfl) (by kernel_rfl) (by kernel_rfl) (by kernel_rfl)
  have x9 := @run_callFunc_extern Tryz.prog 163 _ (ReflectliteValue.method (ReflectliteValue.valueError "reflectlite.Value.Elem" 0) ReflectliteValue.elem) Tryz.func163 (by kernel_rfl) (by kernel_rfl) (by kernel_rfl) (by kernel_rfl)
  have x10 := @run_callFunc_extern Tryz.prog 164 _ ReflectliteValue.set Tryz.func164 (by kernel_rfl) (by kernel_rfl) (by kernel_rfl) (by kernel_rfl)
  have y1 := typeOfE
  have y2 := methodAssignableTo
  have y3 := assignableE
  have y4 := valueOfE
  have y5 := valueOfPE
  have y6 := typePE
  have y7 := methodKind
  have y8 := methodElem
  have y9 := methodImplements
  have y10 := kindPE
  have y11 := kindE
  have y12 := elemPE
  have y13 := implementsE
  have z1 := typeOfA
  have z2 := assignableA
  have z3 := methodUnwrapA
  have z4 := assertAsA
  have z5 := assertUnwrapA
  have n8 := isNilPE ⟨w.heap.size, 0, none⟩ t ((w.alloc (.cells #[.pointer (some t)] 130)).alloc (.cells #[.pointer (some ⟨13, 130, none⟩), .pointer (some ⟨w.heap.size, 0, none⟩), .int .u64 150] 190)) (by simp)
  have hg2 : ((w.alloc (.cells #[.pointer (some t)] 130)).alloc (.cells #[.pointer (some ⟨13, 130, none⟩), .pointer (some ⟨w.heap.size, 0, none⟩), .int .u64 150] 190)).cell? ⟨1, 0, none⟩ = some (.iface 242 (.agg #[.pointer (some ⟨13, 26, none⟩)])) := by
    rw [World.cell?_alloc_lt _ _ ⟨1, 0, none⟩ (by simp <;> omega), World.cell?_alloc_lt _ _ ⟨1, 0, none⟩ hlt]; exact hg
  have hB2 : (((w.alloc (.cells #[.pointer (some t)] 130)).alloc (.cells #[.pointer (some ⟨13, 130, none⟩), .pointer (some ⟨w.heap.size, 0, none⟩), .int .u64 150] 190)).alloc (.cells #[.pointer (some ⟨13, 130, none⟩), .pointer (some ⟨w.heap.size, 0, none⟩), .int .u64 150] 190)).cell? ⟨g, 0, none⟩ = some (.int .i64 k) := by
    rw [World.cell?_alloc_lt _ _ ⟨g, 0, none⟩ (by simp; omega), World.cell?_alloc_lt _ _ ⟨g, 0, none⟩ (by simp; omega), World.cell?_alloc_lt _ _ ⟨g, 0, none⟩ hgl]; exact hB
  have el := elemVPE ⟨w.heap.size, 0, none⟩ t (((w.alloc (.cells #[.pointer (some t)] 130)).alloc (.cells #[.pointer (some ⟨13, 130, none⟩), .pointer (some ⟨w.heap.size, 0, none⟩), .int .u64 150] 190)).alloc (.cells #[.pointer (some ⟨13, 130, none⟩), .pointer (some ⟨w.heap.size, 0, none⟩), .int .u64 150] 190)) (by rw [World.cell?_alloc_lt _ _ ⟨w.heap.size, 0, none⟩ (by simp; omega)]; simp)
  have st := setE t ⟨w.heap.size + 1 + 1 + 1, 0, none⟩ k old ((((w.alloc (.cells #[.pointer (some t)] 130)).alloc (.cells #[.pointer (some ⟨13, 130, none⟩), .pointer (some ⟨w.heap.size, 0, none⟩), .int .u64 150] 190)).alloc (.cells #[.pointer (some ⟨13, 130, none⟩), .pointer (some ⟨w.heap.size, 0, none⟩), .int .u64 150] 190)).alloc (.cells #[.int .i64 k] 31))
    (by rw [World.cell?_alloc_at _ _ _ _ (by simp)]; rfl)
    (by rw [World.cell?_alloc_lt _ _ t (by simp; omega), World.cell?_alloc_lt _ _ t (by simp; omega), World.cell?_alloc_lt _ _ t (by simp; omega), World.cell?_alloc_lt _ _ t htl]; exact ht0)
    (by rw [World.frozen?_alloc_old _ _ t (by simp; omega), World.frozen?_alloc_old _ _ t (by simp; omega), World.frozen?_alloc_old _ _ t (by simp; omega), World.frozen?_alloc_old _ _ t (Nat.ne_of_lt htl)]; exact hf0)
  go_enter Tryz.func79, Tryz.ntmps79
  go_wp2
  refine wp_loop_rounds 2 ?_
  rw [rounds_succ]
  go_wp2
  rw [rounds_succ]
  go_wp2
  go_ret
  exact ⟨rfl, rfl⟩
theorem tell_at (g : Nat) (c p : Int) (w : World) (hg : LaidE w) (hB : Blk w g 155 #[.int .i64 c, .int .i64 p]) : Calls Tryz.prog 25 #[.iface 153 (.pointer (some ⟨g, 0, none⟩))] w fun e w' => e = .returned (.int .i64 c) ∧ Below w.heap.size w w' := by
  have hga := hg.alloc (.cells #[.int .i64 0] 31)
  have hBa := (hB.alloc (.cells #[.int .i64 0] 31)).cell 0
  clear hB hg
  go_enter Tryz.func25, Tryz.ntmps25
  go_wp2_with fail
  refine (as_at c p g _ (.int .i64 0) _ hga hBa (by simp) (by simp)).mono ?_
  rintro e w' ⟨rfl, rfl⟩
  go_wp2_with fail
  go_ret
  refine ⟨rfl, ?_⟩
  repeat (first | exact Below.refl _ _ | refine Below.alloc ?_ (by first | exact Nat.le_refl _ | (simp; done) | (simp; omega)) _ | refine Below.setCell ?_ (by first | exact Nat.le_refl _ | (simp; done) | (simp; omega)) _)
end Go.Proofs.YtecembemhjjdhaaGreatDoor
