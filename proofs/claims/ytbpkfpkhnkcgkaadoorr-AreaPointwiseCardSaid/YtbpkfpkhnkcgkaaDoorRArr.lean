/- Laws of the walk for variables that hold a whole array: an allocation, a box, a load, a store, an index, a result in a cell. The conditions are closed facts of the types. -/
import Derived.Test.YtbpkfpkhnkcgkaaDoorRMem
namespace Go.Proofs.YtbpkfpkhnkcgkaaDoorR
open Go.RowKit

section
variable {P : Program} {ops : Array Oper} {rest : List Oper} {o : Oper} {a : Act} {w : World} {Q : Exit → Act → World → Prop}

theorem wpList_run {w' : World} {v : Value} (hg : o.guard = none) (hr : (execOp a.eval o).run P w = .ok (.value v) w') (h : wpList P ops Q rest (a.put o.dst v) w') : wpList P ops Q (o :: rest) a w :=
  wpList_plain hg fun K hK => by
    unfold Oper.wp
    rw [hr]
    exact hK _ _ h

/-- A type's zero is an array of cells. -/
def ZeroIs (P : Program) (T : TypeId) (Z : Array Value) : Prop := ∀ w, (zeroValue T).run P w = .ok (.agg Z) w

theorem wpList_allocA (T : TypeId) (Z : Array Value) (hz : ZeroIs P T Z) (hg : o.guard = none) (ho : o.op = .alloc T)
    (h : wpList P ops Q rest (a.put o.dst (.pointer (some ⟨w.heap.size, 0, none⟩))) (w.alloc (.cells Z T))) : wpList P ops Q (o :: rest) a w := by
  refine wpList_run hg ?_ h
  unfold execOp
  simp only [ho, Instr.alloc, Sem.run_bind, hz w, Result.andThen_ok]
  rfl

theorem wpList_boxA (T : TypeId) (x : Operand) (Z : Array Value) (hg : o.guard = none) (ho : o.op = .box T x) (hx : a.eval x = .agg Z)
    (h : wpList P ops Q rest (a.put o.dst (.pointer (some ⟨w.heap.size, 0, none⟩))) (w.alloc (.cells Z T))) : wpList P ops Q (o :: rest) a w := by
  refine wpList_run hg ?_ h
  unfold execOp
  simp only [ho, hx]
  rfl

theorem wpList_loadA (T : TypeId) (x : Operand) (g : Nat) (t : TypeId) (cs : Array Value) (fr : Nat × Nat) (d : TypeDesc) (hgd : o.guard = none) (ho : o.op = .load T x) (hx : a.eval x = .pointer (some ⟨g, 0, none⟩))
    (hg : w.heap[g]? = some (.cells cs t fr)) (hu : P.underlying T = some d) (hd : (match d with | .struct _ | .array _ _ => true | _ => false) = true) (hi : (P.info? T).map (·.size) = some cs.size)
    (h : wpList P ops Q rest (a.put o.dst (.agg cs)) w) : wpList P ops Q (o :: rest) a w :=
  wpList_load_row hgd T x ho g hx t cs fr d hg hu hd hi h

theorem wpList_buildA (T : TypeId) (Z : Array Value) (hgd : o.guard = none) (ho : o.op = .build T #[]) (hz : ∀ w, (Instr.build T #[]).run P w = .ok (.agg Z) w)
    (h : wpList P ops Q rest (a.put o.dst (.agg Z)) w) : wpList P ops Q (o :: rest) a w := by
  refine wpList_run hgd ?_ h
  unfold execOp
  simp only [ho]
  have := hz w
  simp [this]

theorem wpList_indexA (T : TypeId) (x i : Operand) (cs : Array Value) (k : Int) (v : Value) (hgd : o.guard = none) (ho : o.op = .index T x i) (hx : a.eval x = .agg cs) (hi : a.eval i = .int .i64 k)
    (hr : (Instr.index T (.agg cs) (.int .i64 k)).run P w = .ok v w) (h : wpList P ops Q rest (a.put o.dst v) w) : wpList P ops Q (o :: rest) a w := by
  refine wpList_run hgd ?_ h
  unfold execOp
  simp only [ho, hx, hi]
  simp [hr]

theorem setRow_alloc (w : World) (Z G : Array Value) (T : TypeId) (fr : Nat × Nat) : (w.alloc (.cells Z T fr)).setRow w.heap.size G = w.alloc (.cells G T fr) := by
  have h : (w.heap.push (.cells Z T fr)).modify w.heap.size (fun o => match o with | .cells _ elem frozen => Obj.cells G elem frozen | o => o) = w.heap.push (.cells G T fr) := by
    apply Array.ext
    · simp
    · intro i h1 h2
      rw [Array.getElem_modify, Array.getElem_push, Array.getElem_push]
      by_cases h3 : i < w.heap.size
      · simp [h3, Nat.ne_of_gt h3]
      · have : i = w.heap.size := by simp at h2; omega
        subst this
        simp
  unfold World.setRow World.alloc
  simp only
  exact congrArg (fun z => { w with heap := z }) h

/-- A new variable with a whole array: the allocation and the store behind it. -/
theorem wpList_declA {o2 : Oper} (T : TypeId) (Z G : Array Value) (d : Tmp) (y : Operand) (hz : ZeroIs P T Z) (hg : o.guard = none) (ho : o.op = .alloc T) (hdst : o.dst = some d)
    (hg2 : o2.guard = none) (ho2 : o2.op = .store T (.tmp d) y) (hx : (a.put (some d) (.pointer (some ⟨w.heap.size, 0, none⟩))).eval (.tmp d) = .pointer (some ⟨w.heap.size, 0, none⟩))
    (hy : (a.put (some d) (.pointer (some ⟨w.heap.size, 0, none⟩))).eval y = .agg G) (hi : (P.info? T).map (·.size) = some G.size) (hs : Z.size = G.size) (h1 : G.all (·.oneCell') = true)
    (h : wpList P ops Q rest ((a.put (some d) (.pointer (some ⟨w.heap.size, 0, none⟩))).put o2.dst undef) (w.alloc (.cells G T))) : wpList P ops Q (o :: o2 :: rest) a w := by
  refine wpList_allocA T Z hz hg ho ?_
  rw [hdst]
  refine wpList_store_row hg2 T _ _ ho2 w.heap.size G hx hy T Z (heap_alloc_new _ _) hi hs h1 ?_
  rw [setRow_alloc]
  exact h

theorem results_cellA_tmp {fn : Func} {p u : Tmp} {ty : TypeId} (h : fn.results = #[.cell p ty, .tmp u]) (tmps : Array Value) (g : Nat) (t : TypeId) (cs : Array Value) (fr : Nat × Nat) (d : TypeDesc)
    (hp : tmps.getD p undef = .pointer (some ⟨g, 0, none⟩)) (hg : w.heap[g]? = some (.cells cs t fr))
    (hu : P.underlying ty = some d) (hd : (match d with | .struct _ | .array _ _ => true | _ => false) = true) (hi : (P.info? ty).map (·.size) = some cs.size) :
    (results fn tmps).run P w = .ok (.tuple #[.agg cs, tmps.getD u undef]) w := by
  rw [results_cell_tmp h, hp]
  have h1 : (asAddr (.pointer (some ⟨g, 0, none⟩))).run P w = .ok ⟨g, 0, none⟩ w := rfl
  rw [h1, Result.andThen_ok, run_loadVar_row w g t ty cs fr d hg hu hd hi, Result.andThen_ok]
end
end Go.Proofs.YtbpkfpkhnkcgkaaDoorR
