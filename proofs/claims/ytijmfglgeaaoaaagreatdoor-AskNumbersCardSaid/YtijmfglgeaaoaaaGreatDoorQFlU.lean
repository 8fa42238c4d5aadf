/-
  What flatAsks needs besides: the commands that are marks, their loads, their comparison.
-/
import Derived.Test.YtijmfglgeaaoaaaGreatDoorQFlE
import Derived.Test.YtijmfglgeaaoaaaGreatDoorQLnQ
import Derived.Test.YtijmfglgeaaoaaaGreatDoorQAskL
namespace Go.Proofs.YtijmfglgeaaoaaaGreatDoor
open Go.RowKit Go.Maps
set_option linter.unusedVariables false
set_option linter.unusedSimpArgs false

/-- The cells of a record that bears the mark v. -/
def mkR (v : Int) : List Value := [.int .u8 0, .int .i64 0, .string ⟨#[]⟩, .int .i64 0, .int .i64 v, .int .i64 0, .int .i64 0, .int .i64 0, .int .i64 0, .slice none 0 0, .slice none 0 0]
def mkRC (k i : Int) : List Value := mkR (1000003 * (k + 7) + i)
theorem mkRE : MkE mkRC 11 := ⟨fun _ _ => rfl, fun k i v hv => by
  simp only [mkRC, mkR, List.mem_cons, List.not_mem_nil, or_false] at hv
  rcases hv with rfl | rfl | rfl | rfl | rfl | rfl | rfl | rfl | rfl | rfl | rfl <;> rfl⟩
theorem askT : EltT Tryz.prog 37 29 11 128 (.agg #[.int .u8 0, .int .i64 0, .string ⟨#[]⟩, .int .i64 0, .int .i64 0, .int .i64 0, .int .i64 0, .int .i64 0, .int .i64 0, .slice none 0 0, .slice none 0 0]) := ⟨Tryz.underlying37, by kernel_rfl, rfl, by omega⟩
/-- Element t of the row in g is the mark v. -/
def EltAt (w : World) (g t : Nat) (v : Int) : Prop := ∀ j, j < 11 → w.cell? ⟨g, t * 11 + j, none⟩ = (mkR v)[j]?
theorem EltAt.fresh {w w' : World} {g t : Nat} {v : Int} (h : EltAt w g t v) (ht : Turned (fun _ => False) w w') : EltAt w' g t v := fun j hj => by
  have hs : ∃ u, (mkR v)[j]? = some u := ⟨_, List.getElem?_eq_getElem (by simp [mkR]; omega)⟩
  obtain ⟨u, hu⟩ := hs
  rw [hu]
  exact cell_turned ht ((h j hj).trans hu) (fun e => e)
theorem markR_at {w : World} {T g n cap t : Nat} {k : Int} (h : RowE w T 11 g n cap (marksE mkRC k n)) (ht : t < n) : EltAt w g t (1000003 * (k + 7) + (t : Int)) := fun j hj => by
  have h0 := marksE_get mkRE k n t j ht hj
  have hs : ∃ u, (mkRC k (t : Int))[j]? = some u := ⟨_, List.getElem?_eq_getElem (by simp [mkRC, mkR]; omega)⟩
  obtain ⟨u, hu⟩ := hs
  exact (h.cell (h0.trans hu)).trans hu.symm
theorem markR2_at {w : World} {T g n cap t : Nat} {k k2 : Int} (h : RowE w T 11 g (n + 64) cap (marksE mkRC k n ++ marksE mkRC k2 64)) (ht : t < n) : EltAt w g t (1000003 * (k + 7) + (t : Int)) := fun j hj => by
  have h0 := marksE_get mkRE k n t j ht hj
  have hl := marksE_length mkRE k n
  have hs : ∃ u, (mkRC k (t : Int))[j]? = some u := ⟨_, List.getElem?_eq_getElem (by simp [mkRC, mkR]; omega)⟩
  obtain ⟨u, hu⟩ := hs
  have h1 := h0.trans hu
  refine (h.cell ?_).trans hu.symm
  rw [List.getElem?_append_left (by omega)]
  exact h1
set_option maxRecDepth 100000 in
theorem mkR_any (k i : Int) (w : World) (h0 : 0 ≤ k) (h1 : k ≤ 1000) (h2 : 0 ≤ i) (h3 : i ≤ 10000000) : Calls Tryz.prog 114 #[.int .i64 k, .int .i64 i] w (RetNew (.agg (mkRC k i).toArray) w) := by
  go_enter Tryz.func114, Tryz.ntmps114
  go_wp2_with fail
  refine (mark_any k i _ h0 h1 h2 h3).mono ?_
  rintro e w1 ⟨rfl, rfl⟩
  go_wp2_with fail
  refine bodyPost_ret (v := .agg (mkRC k i).toArray) (by simp [results, Tryz.results114, go_sem, mkRC, mkR]) rfl ⟨rfl, ?_⟩
  exact (Turned.refl (fun _ => False) w).alloc _
/-- The command of a mark. -/
def mkAsk (v : Int) : AskV := ⟨0, 0, [], 0, v, 0, 0, 0, 0, [], []⟩
theorem sameK_any (v : Int) (w : World) : Calls Tryz.prog 11 #[.agg (mkR v).toArray, .agg (mkR v).toArray] w (RetNew (.bool true) w) :=
  sameA_any (mkAsk v) AskS.nil AskS.nil w (nil_is w (mkAsk v) rfl rfl) (nil_is w (mkAsk v) rfl rfl)
set_option maxRecDepth 100000 in
theorem loadK_run {g t : Nat} {v : Int} {a : Act} {o : Oper} {i : Nat} {w : World} (h : EltAt w g t v) (ho : o.op = Op.load 29 (.tmp i)) (h1 : a.eval (.tmp i) = .pointer (some ⟨g, t * 11, none⟩)) :
    (execOp a.eval o).run Tryz.prog w = .ok (.value (.agg (mkR v).toArray)) w := by
  have c0 := h 0 (by omega)
  have c1 := h 1 (by omega)
  have c2 := h 2 (by omega)
  have c3 := h 3 (by omega)
  have c4 := h 4 (by omega)
  have c5 := h 5 (by omega)
  have c6 := h 6 (by omega)
  have c7 := h 7 (by omega)
  have c8 := h 8 (by omega)
  have c9 := h 9 (by omega)
  have c10 := h 10 (by omega)
  simp only [mkR, List.getElem?_cons_zero, List.getElem?_cons_succ, Nat.add_zero] at c0 c1 c2 c3 c4 c5 c6 c7 c8 c9 c10
  simp only [execOp, ho, h1]
  clear h
  go_simp
  try rfl
end Go.Proofs.YtijmfglgeaaoaaaGreatDoor

