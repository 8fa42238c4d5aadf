/-
  storemanlaw13.some: seventeen right commands. No condition.
-/
import Derived.Test.YtijmfglgeaaoaaaGreatDoorQBtA
import Derived.Laws.BytesArg
namespace Go.Proofs.YtijmfglgeaaoaaaGreatDoor
open Go.RowKit Go.Maps
set_option linter.unusedVariables false
set_option linter.unusedSimpArgs false

/-- The item of the eight parts' i. -/
def eightI (i : Nat) : List UInt8 := [65, 66, 67, 68, 69, 70, 71, 72, 73, 74, 75] ++ toB [48 + (i : Int)]
def eightP (n : Nat) : List (List UInt8 × Int) := (List.range n).map fun (i : Nat) => (eightI i, 1073741824)
theorem eightP_succ (n : Nat) : eightP (n + 1) = eightP n ++ [(eightI n, 1073741824)] := by simp [eightP, List.range_succ]
theorem eight_str (i : Nat) : (⟨#[65, 66, 67, 68, 69, 70, 71, 72, 73, 74, 75]⟩ : ByteArray) ++ strOfNums [48 + (i : Int)] = ⟨(eightI i).toArray⟩ := by
  rw [strOfNums_eq]
  apply ByteArray.ext
  rw [ByteArray.data_append]
  unfold eightI
  rw [← List.append_toArray]
/-- The seventeen commands. -/
def someA (i : Nat) : AskV := match i with
  | 0 => ⟨1, 4611686018427387904, [65], 0, 0, 2000, 0, 0, 0, [], []⟩
  | 1 => ⟨2, 0, [75], 0, 0, 0, 0, 0, 0, (eightP 8), []⟩
  | 2 => ⟨2, 0, [75], 0, 0, 0, 0, 0, 0, [([75], 1)], []⟩
  | 3 => ⟨3, 0, [65], 0, 0, 0, 0, 0, 0, [], []⟩
  | 4 => ⟨3, 0, [65], 0, 0, 0, 0, 0, 0, [], [[66], [67], [68], [69]]⟩
  | 5 => ⟨4, 0, [65], 1, 0, 0, 0, 0, 0, [], []⟩
  | 6 => ⟨5, 0, [65], 1073741824, 4000, 0, 0, 0, 0, [], []⟩
  | 7 => ⟨6, 0, [], 0, 3, 0, 0, 1, 0, [], []⟩
  | 8 => ⟨7, 0, [], 0, 0, 0, 0, 9223372036854775807, 0, [], []⟩
  | 9 => ⟨8, 0, [], 0, 0, 0, 0, 1, 0, [], []⟩
  | 10 => ⟨9, 0, [65], 2, 0, 0, 99, 0, 0, [], []⟩
  | 11 => ⟨10, 0, [], 0, 0, 0, 0, 0, 1, [], []⟩
  | 12 => ⟨11, 0, [], 0, 0, 0, 0, 0, 9223372036854775807, [], []⟩
  | 13 => ⟨12, 1, [], 0, 0, 0, 0, 0, 0, [], []⟩
  | 14 => ⟨13, 0, [65], 2, 5, 0, 0, 0, 0, [], []⟩
  | 15 => ⟨14, 0, [], 0, 0, 0, 0, 0, 7, [], []⟩
  | _ => ⟨15, 0, [65], 0, 0, 0, 0, 0, 0, [], []⟩
def someS (A8 : Option Addr) (c8 gk go : Nat) (i : Nat) : AskS := match i with
  | 0 => ⟨⟨none, 0, 0⟩, ⟨none, 0, 0⟩⟩
  | 1 => ⟨⟨A8, 8, c8⟩, ⟨none, 0, 0⟩⟩
  | 2 => ⟨⟨some ⟨gk, 0, none⟩, 1, 1⟩, ⟨none, 0, 0⟩⟩
  | 3 => ⟨⟨none, 0, 0⟩, ⟨none, 0, 0⟩⟩
  | 4 => ⟨⟨none, 0, 0⟩, ⟨some ⟨go, 0, none⟩, 4, 4⟩⟩
  | 5 => ⟨⟨none, 0, 0⟩, ⟨none, 0, 0⟩⟩
  | 6 => ⟨⟨none, 0, 0⟩, ⟨none, 0, 0⟩⟩
  | 7 => ⟨⟨none, 0, 0⟩, ⟨none, 0, 0⟩⟩
  | 8 => ⟨⟨none, 0, 0⟩, ⟨none, 0, 0⟩⟩
  | 9 => ⟨⟨none, 0, 0⟩, ⟨none, 0, 0⟩⟩
  | 10 => ⟨⟨none, 0, 0⟩, ⟨none, 0, 0⟩⟩
  | 11 => ⟨⟨none, 0, 0⟩, ⟨none, 0, 0⟩⟩
  | 12 => ⟨⟨none, 0, 0⟩, ⟨none, 0, 0⟩⟩
  | 13 => ⟨⟨none, 0, 0⟩, ⟨none, 0, 0⟩⟩
  | 14 => ⟨⟨none, 0, 0⟩, ⟨none, 0, 0⟩⟩
  | 15 => ⟨⟨none, 0, 0⟩, ⟨none, 0, 0⟩⟩
  | _ => ⟨⟨none, 0, 0⟩, ⟨none, 0, 0⟩⟩
def someC (A8 : Option Addr) (c8 gk go : Nat) : Array Value := #[.int .u8 1, .int .i64 4611686018427387904, .string ⟨#[65]⟩, .int .i64 0, .int .i64 0, .int .i64 2000, .int .i64 0, .int .i64 0, .int .i64 0, .slice none 0 0, .slice none 0 0, .int .u8 2, .int .i64 0, .string ⟨#[75]⟩, .int .i64 0, .int .i64 0, .int .i64 0, .int .i64 0, .int .i64 0, .int .i64 0, .slice A8 8 c8, .slice none 0 0, .int .u8 2, .int .i64 0, .string ⟨#[75]⟩, .int .i64 0, .int .i64 0, .int .i64 0, .int .i64 0, .int .i64 0, .int .i64 0, .slice (some ⟨gk, 0, none⟩) 1 1, .slice none 0 0, .int .u8 3, .int .i64 0, .string ⟨#[65]⟩, .int .i64 0, .int .i64 0, .int .i64 0, .int .i64 0, .int .i64 0, .int .i64 0, .slice none 0 0, .slice none 0 0, .int .u8 3, .int .i64 0, .string ⟨#[65]⟩, .int .i64 0, .int .i64 0, .int .i64 0, .int .i64 0, .int .i64 0, .int .i64 0, .slice none 0 0, .slice (some ⟨go, 0, none⟩) 4 4, .int .u8 4, .int .i64 0, .string ⟨#[65]⟩, .int .i64 1, .int .i64 0, .int .i64 0, .int .i64 0, .int .i64 0, .int .i64 0, .slice none 0 0, .slice none 0 0, .int .u8 5, .int .i64 0, .string ⟨#[65]⟩, .int .i64 1073741824, .int .i64 4000, .int .i64 0, .int .i64 0, .int .i64 0, .int .i64 0, .slice none 0 0, .slice none 0 0, .int .u8 6, .int .i64 0, .string ⟨#[]⟩, .int .i64 0, .int .i64 3, .int .i64 0, .int .i64 0, .int .i64 1, .int .i64 0, .slice none 0 0, .slice none 0 0, .int .u8 7, .int .i64 0, .string ⟨#[]⟩, .int .i64 0, .int .i64 0, .int .i64 0, .int .i64 0, .int .i64 9223372036854775807, .int .i64 0, .slice none 0 0, .slice none 0 0, .int .u8 8, .int .i64 0, .string ⟨#[]⟩, .int .i64 0, .int .i64 0, .int .i64 0, .int .i64 0, .int .i64 1, .int .i64 0, .slice none 0 0, .slice none 0 0, .int .u8 9, .int .i64 0, .string ⟨#[65]⟩, .int .i64 2, .int .i64 0, .int .i64 0, .int .i64 99, .int .i64 0, .int .i64 0, .slice none 0 0, .slice none 0 0, .int .u8 10, .int .i64 0, .string ⟨#[]⟩, .int .i64 0, .int .i64 0, .int .i64 0, .int .i64 0, .int .i64 0, .int .i64 1, .slice none 0 0, .slice none 0 0, .int .u8 11, .int .i64 0, .string ⟨#[]⟩, .int .i64 0, .int .i64 0, .int .i64 0, .int .i64 0, .int .i64 0, .int .i64 9223372036854775807, .slice none 0 0, .slice none 0 0, .int .u8 12, .int .i64 1, .string ⟨#[]⟩, .int .i64 0, .int .i64 0, .int .i64 0, .int .i64 0, .int .i64 0, .int .i64 0, .slice none 0 0, .slice none 0 0, .int .u8 13, .int .i64 0, .string ⟨#[65]⟩, .int .i64 2, .int .i64 5, .int .i64 0, .int .i64 0, .int .i64 0, .int .i64 0, .slice none 0 0, .slice none 0 0, .int .u8 14, .int .i64 0, .string ⟨#[]⟩, .int .i64 0, .int .i64 0, .int .i64 0, .int .i64 0, .int .i64 0, .int .i64 7, .slice none 0 0, .slice none 0 0, .int .u8 15, .int .i64 0, .string ⟨#[65]⟩, .int .i64 0, .int .i64 0, .int .i64 0, .int .i64 0, .int .i64 0, .int .i64 0, .slice none 0 0, .slice none 0 0]
set_option maxRecDepth 100000 in
theorem someA_right (i : Nat) : rightA (someA i) = true := by
  unfold someA
  split <;> decide +kernel
theorem eight_ok : ∀ p ∈ eightP 8, strOk p.1 ∧ I64 p.2 := by
  intro p hp
  obtain ⟨i, _, rfl⟩ := List.mem_map.1 hp
  exact ⟨strOk_few (by show (eightI i).length ≤ 100; unfold eightI; rw [List.length_append, toB_length]; simp), (show I64 1073741824 from ⟨by decide, by decide⟩)⟩
set_option maxRecDepth 100000 in
theorem someA_ok (i : Nat) : (someA i).Ok := by
  have h8 := eight_ok
  unfold someA
  split <;> exact ⟨⟨by decide, by decide⟩, ⟨by decide, by decide⟩, strOk_few (by simp), ⟨by decide, by decide⟩, ⟨by decide, by decide⟩, ⟨by decide, by decide⟩, ⟨by decide, by decide⟩, ⟨by decide, by decide⟩, ⟨by decide, by decide⟩, by first | exact h8 | (unfold strOk I64; decide), by unfold strOk; decide⟩
/-- The cells of command i of the list in block g. -/
def CelsA (w : World) (g i : Nat) (a : AskV) (S : AskS) : Prop := ∀ j, j < 11 → w.cell? ⟨g, i * 11 + j, none⟩ = (askC a S).toList[j]?
theorem CelsA.turned {W : Nat → Prop} {w w' : World} {g i : Nat} {a : AskV} {S : AskS} (h : CelsA w g i a S) (ht : Turned W w w') (hW : ¬ W g) : CelsA w' g i a S := fun j hj => by
  have hs : ∃ u, (askC a S).toList[j]? = some u := ⟨_, List.getElem?_eq_getElem (by simp [askC]; omega)⟩
  obtain ⟨u, hu⟩ := hs
  rw [hu]
  exact cell_turned ht ((h j hj).trans hu) hW
/-- The list in block g, and what it holds; all of it lies from B on. -/
structure SomeIs (w : World) (B g : Nat) (A8 : Option Addr) (c8 gk go : Nat) : Prop where
  list : Blk w g 29 (someC A8 c8 gk go)
  own : ∀ i, i < 17 → AskOwn w B (someA i) (someS A8 c8 gk go i)
  ne : A8 ≠ some ⟨gk, 0, none⟩
  gB : B ≤ g
theorem some_few (A8 : Option Addr) (c8 gk go i : Nat) : (someS A8 c8 gk go i).P.n ≤ 1000 ∧ (someS A8 c8 gk go i).O.n ≤ 1000 := by
  unfold someS
  split <;> simp
set_option maxRecDepth 100000 in
set_option maxHeartbeats 4000000 in
theorem some_cells {w : World} {g : Nat} {A8 : Option Addr} {c8 gk go : Nat} (h : Blk w g 29 (someC A8 c8 gk go)) (i : Nat) (hi : i < 17) : CelsA w g i (someA i) (someS A8 c8 gk go i) := by
  intro j hj
  rw [h.cell]
  rcases (show i = 0 ∨ i = 1 ∨ i = 2 ∨ i = 3 ∨ i = 4 ∨ i = 5 ∨ i = 6 ∨ i = 7 ∨ i = 8 ∨ i = 9 ∨ i = 10 ∨ i = 11 ∨ i = 12 ∨ i = 13 ∨ i = 14 ∨ i = 15 ∨ i = 16 by omega) with rfl | rfl | rfl | rfl | rfl | rfl | rfl | rfl | rfl | rfl | rfl | rfl | rfl | rfl | rfl | rfl | rfl <;>
  rcases (show j = 0 ∨ j = 1 ∨ j = 2 ∨ j = 3 ∨ j = 4 ∨ j = 5 ∨ j = 6 ∨ j = 7 ∨ j = 8 ∨ j = 9 ∨ j = 10 by omega) with rfl | rfl | rfl | rfl | rfl | rfl | rfl | rfl | rfl | rfl | rfl <;> rfl
/-- One of them may have turned (its lists have grown): all stand. -/
theorem SomeIs.turned {w w' : World} {B g : Nat} {A8 : Option Addr} {c8 gk go i : Nat} (h : SomeIs w B g A8 c8 gk go) (hi : i < 17) (ht : Turned (LisW (someS A8 c8 gk go i)) w w') (ho : AskOwn w' B (someA i) (someS A8 c8 gk go i)) : SomeIs w' B g A8 c8 gk go := by
  refine ⟨h.list.turned ht (fun e => ?_), fun k hk => ?_, h.ne, h.gB⟩
  · rcases e with e | e
    · exact (h.own i hi).parts.blk h.list (by decide) e rfl
    · exact (h.own i hi).others.blk h.list (by decide) e rfl
  · by_cases e : k = i
    · subst e; exact ho
    · have hp : ∀ x, x ≠ 1 → x ≠ 2 → (someS A8 c8 gk go x).P.A = none := fun x h1 h2 => by unfold someS; split <;> first | rfl | (exfalso; omega)
      have hq : ∀ x, x ≠ 4 → (someS A8 c8 gk go x).O.A = none := fun x h1 => by unfold someS; split <;> first | rfl | (exfalso; omega)
      have pp : ∀ g', (someS A8 c8 gk go k).P.A = some ⟨g', 0, none⟩ → (someS A8 c8 gk go i).P.A ≠ some ⟨g', 0, none⟩ := fun g' e1 e2 => by
        by_cases k1 : k = 1
        · by_cases i2 : i = 2
          · subst k1 i2; exact h.ne (e1.trans e2.symm)
          · rw [hp i (by omega) i2] at e2; cases e2
        · by_cases k2 : k = 2
          · by_cases i1 : i = 1
            · subst k2 i1; exact h.ne (e2.trans e1.symm)
            · rw [hp i i1 (by omega)] at e2; cases e2
          · rw [hp k k1 k2] at e1; cases e1
      have oo : ∀ g', (someS A8 c8 gk go k).O.A = some ⟨g', 0, none⟩ → (someS A8 c8 gk go i).O.A ≠ some ⟨g', 0, none⟩ := fun g' e1 e2 => by
        by_cases k1 : k = 4
        · rw [hq i (by omega)] at e2; cases e2
        · rw [hq k k1] at e1; cases e1
      have po : ∀ (x y : Nat), x < 17 → y < 17 → ∀ g', (someS A8 c8 gk go x).P.A = some ⟨g', 0, none⟩ → (someS A8 c8 gk go y).O.A ≠ some ⟨g', 0, none⟩ := fun x y hx hy g' e1 e2 => by
        have o1 := (h.own x hx).parts
        have o2 := (h.own y hy).others
        rw [e1] at o1
        rw [e2] at o2
        obtain ⟨b1, r1, _⟩ := o1.row.row
        obtain ⟨b2, r2, _⟩ := o2.row.row
        exact absurd (Blk.inj r1 r2).2 (by decide)
      exact ⟨(h.own k hk).parts.turned ht (fun g' e1 e2 => by
        rcases e2 with e2 | e2
        · exact pp g' e1 e2
        · exact po k i hk hi g' e1 e2), (h.own k hk).others.turned ht (fun g' e1 e2 => by
        rcases e2 with e2 | e2
        · exact po i k hi hk g' e2 e1
        · exact oo g' e1 e2), (h.own k hk).pB, (h.own k hk).oB⟩
theorem SomeIs.fresh {w w' : World} {B g : Nat} {A8 : Option Addr} {c8 gk go : Nat} (h : SomeIs w B g A8 c8 gk go) (ht : Turned (fun _ => False) w w') : SomeIs w' B g A8 c8 gk go := ⟨h.list.turned ht (fun e => e), fun i hi => (h.own i hi).fresh ht, h.ne, h.gB⟩
theorem some_end {w' : World} {B g : Nat} {A8 : Option Addr} {c8 gk go : Nat} (hL : Blk w' g 29 (someC A8 c8 gk go)) (o8 : OwnE w' 55 2 A8 8 c8 (partC (eightP 8))) (g8 : ∀ g, A8 = some ⟨g, 0, none⟩ → B ≤ g) (rk : RowE w' 55 2 gk 1 1 (partC [([75], 1)])) (ro : RowE w' 9 1 go 4 4 (textC [[66], [67], [68], [69]]))
    (b1 : B ≤ gk) (b2 : B ≤ go) (b3 : B ≤ g) (ne : A8 ≠ some ⟨gk, 0, none⟩) : SomeIs w' B g A8 c8 gk go := by
  refine ⟨hL, fun i hi => ?_, ne, b3⟩
  have n1 : ∀ (a : AskV) (S : AskS), a.parts = [] → a.others = [] → S = AskS.nil → AskOwn w' B a S := fun a S h1 h2 h3 => by
    subst h3
    exact ⟨by rw [h1]; exact OwnE.nil _ _ _, by rw [h2]; exact OwnE.nil _ _ _, (fun g e => by cases e), (fun g e => by cases e)⟩
  rcases (show i = 0 ∨ i = 1 ∨ i = 2 ∨ i = 3 ∨ i = 4 ∨ i = 5 ∨ i = 6 ∨ i = 7 ∨ i = 8 ∨ i = 9 ∨ i = 10 ∨ i = 11 ∨ i = 12 ∨ i = 13 ∨ i = 14 ∨ i = 15 ∨ i = 16 by omega) with rfl | rfl | rfl | rfl | rfl | rfl | rfl | rfl | rfl | rfl | rfl | rfl | rfl | rfl | rfl | rfl | rfl
  · exact n1 _ _ rfl rfl rfl
  · exact ⟨o8, OwnE.nil _ _ _, g8, (fun g e => by cases e)⟩
  · exact ⟨OwnE.of_row rk, OwnE.nil _ _ _, (fun g e => by injection e with e; injection e with e; omega), (fun g e => by cases e)⟩
  · exact n1 _ _ rfl rfl rfl
  · exact ⟨OwnE.nil _ _ _, OwnE.of_row ro, (fun g e => by cases e), (fun g e => by injection e with e; injection e with e; omega)⟩
  · exact n1 _ _ rfl rfl rfl
  · exact n1 _ _ rfl rfl rfl
  · exact n1 _ _ rfl rfl rfl
  · exact n1 _ _ rfl rfl rfl
  · exact n1 _ _ rfl rfl rfl
  · exact n1 _ _ rfl rfl rfl
  · exact n1 _ _ rfl rfl rfl
  · exact n1 _ _ rfl rfl rfl
  · exact n1 _ _ rfl rfl rfl
  · exact n1 _ _ rfl rfl rfl
  · exact n1 _ _ rfl rfl rfl
  · exact n1 _ _ rfl rfl rfl
theorem bs_run {a : Act} {o : Oper} {t n : Nat} {ps : Array (Nat × Operand)} {ps' : Array (Nat × Value)} {r : Value} {w w' : World} (ho : o.op = Op.buildSlice t n ps) (hp : (ps.map fun (i, x) => (i, a.eval x)) = ps') (h : (Instr.buildSlice t n ps').run Tryz.prog w = .ok r w') : (execOp a.eval o).run Tryz.prog w = .ok (.value r) w' := by
  simp only [execOp, ho, hp]
  rw [Sem.run_bind, h]
  rfl
theorem big_run (A8 : Option Addr) (c8 gk go : Nat) (w : World) : (Instr.buildSlice 37 17 #[(0, .agg #[.int .u8 1, .int .i64 4611686018427387904, .string ⟨#[65]⟩, .int .i64 0, .int .i64 0, .int .i64 2000, .int .i64 0, .int .i64 0, .int .i64 0, .slice none 0 0, .slice none 0 0]), (1, .agg #[.int .u8 2, .int .i64 0, .string ⟨#[75]⟩, .int .i64 0, .int .i64 0, .int .i64 0, .int .i64 0, .int .i64 0, .int .i64 0, .slice A8 8 c8, .slice none 0 0]), (2, .agg #[.int .u8 2, .int .i64 0, .string ⟨#[75]⟩, .int .i64 0, .int .i64 0, .int .i64 0, .int .i64 0, .int .i64 0, .int .i64 0, .slice (some ⟨gk, 0, none⟩) 1 1, .slice none 0 0]), (3, .agg #[.int .u8 3, .int .i64 0, .string ⟨#[65]⟩, .int .i64 0, .int .i64 0, .int .i64 0, .int .i64 0, .int .i64 0, .int .i64 0, .slice none 0 0, .slice none 0 0]), (4, .agg #[.int .u8 3, .int .i64 0, .string ⟨#[65]⟩, .int .i64 0, .int .i64 0, .int .i64 0, .int .i64 0, .int .i64 0, .int .i64 0, .slice none 0 0, .slice (some ⟨go, 0, none⟩) 4 4]), (5, .agg #[.int .u8 4, .int .i64 0, .string ⟨#[65]⟩, .int .i64 1, .int .i64 0, .int .i64 0, .int .i64 0, .int .i64 0, .int .i64 0, .slice none 0 0, .slice none 0 0]), (6, .agg #[.int .u8 5, .int .i64 0, .string ⟨#[65]⟩, .int .i64 1073741824, .int .i64 4000, .int .i64 0, .int .i64 0, .int .i64 0, .int .i64 0, .slice none 0 0, .slice none 0 0]), (7, .agg #[.int .u8 6, .int .i64 0, .string ⟨#[]⟩, .int .i64 0, .int .i64 3, .int .i64 0, .int .i64 0, .int .i64 1, .int .i64 0, .slice none 0 0, .slice none 0 0]), (8, .agg #[.int .u8 7, .int .i64 0, .string ⟨#[]⟩, .int .i64 0, .int .i64 0, .int .i64 0, .int .i64 0, .int .i64 9223372036854775807, .int .i64 0, .slice none 0 0, .slice none 0 0]), (9, .agg #[.int .u8 8, .int .i64 0, .string ⟨#[]⟩, .int .i64 0, .int .i64 0, .int .i64 0, .int .i64 0, .int .i64 1, .int .i64 0, .slice none 0 0, .slice none 0 0]), (10, .agg #[.int .u8 9, .int .i64 0, .string ⟨#[65]⟩, .int .i64 2, .int .i64 0, .int .i64 0, .int .i64 99, .int .i64 0, .int .i64 0, .slice none 0 0, .slice none 0 0]), (11, .agg #[.int .u8 10, .int .i64 0, .string ⟨#[]⟩, .int .i64 0, .int .i64 0, .int .i64 0, .int .i64 0, .int .i64 0, .int .i64 1, .slice none 0 0, .slice none 0 0]), (12, .agg #[.int .u8 11, .int .i64 0, .string ⟨#[]⟩, .int .i64 0, .int .i64 0, .int .i64 0, .int .i64 0, .int .i64 0, .int .i64 9223372036854775807, .slice none 0 0, .slice none 0 0]), (13, .agg #[.int .u8 12, .int .i64 1, .string ⟨#[]⟩, .int .i64 0, .int .i64 0, .int .i64 0, .int .i64 0, .int .i64 0, .int .i64 0, .slice none 0 0, .slice none 0 0]), (14, .agg #[.int .u8 13, .int .i64 0, .string ⟨#[65]⟩, .int .i64 2, .int .i64 5, .int .i64 0, .int .i64 0, .int .i64 0, .int .i64 0, .slice none 0 0, .slice none 0 0]), (15, .agg #[.int .u8 14, .int .i64 0, .string ⟨#[]⟩, .int .i64 0, .int .i64 0, .int .i64 0, .int .i64 0, .int .i64 0, .int .i64 7, .slice none 0 0, .slice none 0 0]), (16, .agg #[.int .u8 15, .int .i64 0, .string ⟨#[65]⟩, .int .i64 0, .int .i64 0, .int .i64 0, .int .i64 0, .int .i64 0, .int .i64 0, .slice none 0 0, .slice none 0 0])]).run Tryz.prog w = .ok (.slice (some ⟨w.heap.size, 0, none⟩) 17 17) (w.alloc (.cells (someC A8 c8 gk go) 29)) := by kernel_rfl
def SomeP (w : World) (e : Ending) (w' : World) : Prop := ∃ g A8 c8 gk go, e = .returned (.slice (some ⟨g, 0, none⟩) 17 17) ∧ SomeIs w' w.heap.size g A8 c8 gk go ∧ Turned (fun _ => False) w w'
def EigRel (w : World) (v i : Value) (wr : World) : Prop := ∃ (j : Nat) (A : Option Addr) (c : Nat), j ≤ 8 ∧ i = .int .i64 (j : Int) ∧ v = .slice A j c ∧ OwnE wr 55 2 A j c (partC (eightP j)) ∧ (∀ g, A = some ⟨g, 0, none⟩ → w.heap.size ≤ g) ∧ Turned (fun _ => False) w wr
set_option maxRecDepth 100000 in
set_option maxHeartbeats 4000000 in
theorem some_any (w : World) : Calls Tryz.prog 13 #[] w (SomeP w) := by
  go_enter Tryz.func13, Tryz.ntmps13
  go_wp2_with fail
  go_loopw [1, 2] (fun v i wr => EigRel w v i wr) (fun _ i _ => 8 - (intOf i).toNat)
  case atStart => exact ⟨0, none, 0, by omega, rfl, rfl, OwnE.nil _ _ _, (fun g e => by cases e), Turned.refl _ _⟩
  case round =>
    obtain ⟨j, A, c, hj, rfl, rfl, ho, hg, ht⟩ := hrel
    have O := Lib.hid ho
    have GG := Lib.hid hg
    have TT := Lib.hid ht
    clear ho hg ht
    by_cases hlt : j < 8
    · have hji : (j : Int) < 8 := by omega
      have hcv : (convert 22 9 (.slice (some ⟨wr.heap.size, 0, none⟩) 1 1)).run Tryz.prog (wr.alloc (.cells #[.int .u8 (48 + (j : Int))] 5)) = .ok (.string (strOfNums [48 + (j : Int)])) (wr.alloc (.cells #[.int .u8 (48 + (j : Int))] 5)) :=
        run_convert_bytes_arg (wr.alloc (.cells #[.int .u8 (48 + (j : Int))] 5)) 22 5 Tryz.underlying22 Tryz.underlying5 wr.heap.size 0 1 1 [48 + (j : Int)] rfl (fun k hk => by
          rw [Nat.zero_add, (Blk.new wr 5 #[.int .u8 (48 + (j : Int))]).cell]
          obtain rfl : k = 0 := by omega
          rfl) 9 Tryz.underlying9
      have hes := eight_str j
      have hsz : (strOfNums [48 + (j : Int)]).size = 1 := strOfNums_size _
      go_wp2_with (at_builtin; refine hold0 ?_)
      refine ⟨?_, trivial⟩
      clear hcv
      generalize hw1 : wr.alloc (.cells #[.int .u8 (48 + (j : Int))] 5) = w1 at *
      have e1 : w1.heap.size = wr.heap.size + 1 := by rw [← hw1]; simp
      rw [← e1]
      have t1 := Lib.hid (show Turned (fun _ => False) wr w1 from by rw [← hw1]; exact (Turned.refl (fun _ => False) wr).alloc _)
      clear hw1 e1
      have tq := Lib.hid ((Turned.refl (fun _ => False) w1).alloc (.cells #[.string ⟨(eightI j).toArray⟩, .int .i64 1073741824] 55))
      refine wpList_appE partT rfl (.tmp 7) (.tmp 15) rfl ((O.out.fresh t1.out).fresh tq.out) ⟨w1.heap.size, 0, none⟩ 1 1 [.string ⟨(eightI j).toArray⟩, .int .i64 1073741824] rfl (news_new2 w1 55 _ _) (by simp [Value.oneCell']) (by omega) (by unfold maxLen; omega) (by omega) rfl rfl ?_
      intro A4 c4 w4 o4 a4
      have hm := a4.mine ((TT.out.and_ t1.out).alloc _) GG.out
      have hR := Lib.hid (show EigRel w (.slice A4 (j + 1) c4) (.int .i64 ((j + 1 : Nat) : Int)) w4 from ⟨j + 1, A4, c4, hlt, rfl, rfl, by rw [eightP_succ, partC_append]; exact o4, hm.2, hm.1⟩)
      clear o4 a4 hm hes hsz
      go_wp2_with fail
      go_roundw
      case rel =>
        first
        | exact hR.out
        | ((repeat apply Exists.intro); exact ⟨hR.out, rfl⟩)
      case measure => simp [intOf] <;> omega
    · have hge : (8 : Int) ≤ (j : Int) := by omega
      obtain rfl : j = 8 := by omega
      go_wp2_with fail
      unfold Oper.wp
      rw [bs_run (ps' := #[(0, .agg #[.int .u8 1, .int .i64 4611686018427387904, .string ⟨#[65]⟩, .int .i64 0, .int .i64 0, .int .i64 2000, .int .i64 0, .int .i64 0, .int .i64 0, .slice none 0 0, .slice none 0 0]), (1, .agg #[.int .u8 2, .int .i64 0, .string ⟨#[75]⟩, .int .i64 0, .int .i64 0, .int .i64 0, .int .i64 0, .int .i64 0, .int .i64 0, .slice A 8 c, .slice none 0 0]), (2, .agg #[.int .u8 2, .int .i64 0, .string ⟨#[75]⟩, .int .i64 0, .int .i64 0, .int .i64 0, .int .i64 0, .int .i64 0, .int .i64 0, .slice (some ⟨wr.heap.size, 0, none⟩) 1 1, .slice none 0 0]), (3, .agg #[.int .u8 3, .int .i64 0, .string ⟨#[65]⟩, .int .i64 0, .int .i64 0, .int .i64 0, .int .i64 0, .int .i64 0, .int .i64 0, .slice none 0 0, .slice none 0 0]), (4, .agg #[.int .u8 3, .int .i64 0, .string ⟨#[65]⟩, .int .i64 0, .int .i64 0, .int .i64 0, .int .i64 0, .int .i64 0, .int .i64 0, .slice none 0 0, .slice (some ⟨wr.heap.size + 1, 0, none⟩) 4 4]), (5, .agg #[.int .u8 4, .int .i64 0, .string ⟨#[65]⟩, .int .i64 1, .int .i64 0, .int .i64 0, .int .i64 0, .int .i64 0, .int .i64 0, .slice none 0 0, .slice none 0 0]), (6, .agg #[.int .u8 5, .int .i64 0, .string ⟨#[65]⟩, .int .i64 1073741824, .int .i64 4000, .int .i64 0, .int .i64 0, .int .i64 0, .int .i64 0, .slice none 0 0, .slice none 0 0]), (7, .agg #[.int .u8 6, .int .i64 0, .string ⟨#[]⟩, .int .i64 0, .int .i64 3, .int .i64 0, .int .i64 0, .int .i64 1, .int .i64 0, .slice none 0 0, .slice none 0 0]), (8, .agg #[.int .u8 7, .int .i64 0, .string ⟨#[]⟩, .int .i64 0, .int .i64 0, .int .i64 0, .int .i64 0, .int .i64 9223372036854775807, .int .i64 0, .slice none 0 0, .slice none 0 0]), (9, .agg #[.int .u8 8, .int .i64 0, .string ⟨#[]⟩, .int .i64 0, .int .i64 0, .int .i64 0, .int .i64 0, .int .i64 1, .int .i64 0, .slice none 0 0, .slice none 0 0]), (10, .agg #[.int .u8 9, .int .i64 0, .string ⟨#[65]⟩, .int .i64 2, .int .i64 0, .int .i64 0, .int .i64 99, .int .i64 0, .int .i64 0, .slice none 0 0, .slice none 0 0]), (11, .agg #[.int .u8 10, .int .i64 0, .string ⟨#[]⟩, .int .i64 0, .int .i64 0, .int .i64 0, .int .i64 0, .int .i64 0, .int .i64 1, .slice none 0 0, .slice none 0 0]), (12, .agg #[.int .u8 11, .int .i64 0, .string ⟨#[]⟩, .int .i64 0, .int .i64 0, .int .i64 0, .int .i64 0, .int .i64 0, .int .i64 9223372036854775807, .slice none 0 0, .slice none 0 0]), (13, .agg #[.int .u8 12, .int .i64 1, .string ⟨#[]⟩, .int .i64 0, .int .i64 0, .int .i64 0, .int .i64 0, .int .i64 0, .int .i64 0, .slice none 0 0, .slice none 0 0]), (14, .agg #[.int .u8 13, .int .i64 0, .string ⟨#[65]⟩, .int .i64 2, .int .i64 5, .int .i64 0, .int .i64 0, .int .i64 0, .int .i64 0, .slice none 0 0, .slice none 0 0]), (15, .agg #[.int .u8 14, .int .i64 0, .string ⟨#[]⟩, .int .i64 0, .int .i64 0, .int .i64 0, .int .i64 0, .int .i64 0, .int .i64 7, .slice none 0 0, .slice none 0 0]), (16, .agg #[.int .u8 15, .int .i64 0, .string ⟨#[65]⟩, .int .i64 0, .int .i64 0, .int .i64 0, .int .i64 0, .int .i64 0, .int .i64 0, .slice none 0 0, .slice none 0 0])]) rfl (by go_simp) (big_run A c wr.heap.size (wr.heap.size + 1) _)]
      rw [Oper.upon_value]
      go_wp2_with fail
      go_ret
      have tW := (((Turned.refl (fun _ => False) wr).alloc (.cells #[.string ⟨#[75]⟩, .int .i64 1] 55)).alloc (.cells #[.string ⟨#[66]⟩, .string ⟨#[67]⟩, .string ⟨#[68]⟩, .string ⟨#[69]⟩] 9)).alloc (.cells (someC A c wr.heap.size (wr.heap.size + 1)) 29)
      have s1 := TT.out.size
      exact ⟨wr.heap.size + 1 + 1, A, c, wr.heap.size, wr.heap.size + 1, rfl, some_end (Blk.new_at _ _ _ (by simp)) (O.out.fresh tW) GG.out (RowE.of_own (base := 0) (OwnE.of_row ⟨rfl, Nat.le_refl _, by decide, _, ((Blk.new wr 55 #[.string ⟨#[75]⟩, .int .i64 1]).alloc _).alloc _, rfl, rfl⟩)) (RowE.of_own (base := 0) (OwnE.of_row ⟨rfl, Nat.le_refl _, by decide, _, (Blk.new_at _ _ _ (by simp)).alloc _, rfl, rfl⟩)) s1 (by omega) (by omega) (fun e => by have := O.out.lt e; omega), TT.out.and_ tW⟩
end Go.Proofs.YtijmfglgeaaoaaaGreatDoor

