/-
  A log in memory, known by its last sheet; log.Append. Conditions: a right record of at most 496 bytes, whose lists do not lie in the log's memory.
-/
import Derived.Test.YtfheikmjjijdpaaDoorQLhA
namespace Go.Proofs.YtfheikmjjijdpaaDoor
open Go.RowKit Go.Maps
set_option linter.unusedVariables false
set_option linter.unusedSimpArgs false

/-- A log: its blocks (itself, its sheets' row, the last sheet, that one's body), what it holds. -/
structure LhS where
  L : Nat
  d : Nat
  S : Nat
  So : Nat
  g : Nat
  gb : Nat
  first : Int
  count : Int
  turn : Int
  oldest : Int
  k : Nat
  cS : Nat
  ps : List Value
  Al : Option Addr
  cl : Nat
  ls : List Int
  num : Int
  tn : Int
  bef : Int
  used : Int
  safe : Int
  body : List Int
  c : Nat
  lost : Bool
structure LhW (w : World) (F : Nat → Prop) (X : LhS) : Prop where
  blk : Blk w X.L 65 (logC X.d X.first X.count X.turn X.oldest (some ⟨X.S, X.So, none⟩) (X.k + 1) X.cS X.Al X.ls.length X.cl)
  shs : RowO w 68 1 X.S X.So (X.k + 1) X.cS (X.ps ++ [.pointer (some ⟨X.g, 0, none⟩)])
  psl : X.ps.length = X.k
  lsn : OwnO w 2 1 X.Al X.ls.length X.cl (i64s X.ls)
  sht : ShtIs w X.g X.gb X.c X.num X.tn X.bef X.used X.body X.safe X.lost
  bL : F X.L
  bS : F X.S
  bl : ∀ a o, X.Al = some ⟨a, o, none⟩ → F a
  cB : 1 ≤ X.count ∧ X.count ≤ 10000
  kB : X.k < 10000
  nB : 0 ≤ X.num ∧ X.num ≤ 9007199254740000
  hB : X.body.length ≤ 496
  lB : X.ls.length ≤ 10000000
theorem LhW.fresh {w w' : World} {F : Nat → Prop} {X : LhS} (h : LhW w F X) (ht : Turned (fun _ => False) w w') : LhW w' F X :=
  ⟨h.blk.turned ht (fun e => e), h.shs.fresh ht, h.psl, h.lsn.fresh ht, h.sht.turned ht (fun e => e) (fun e => e), h.bL, h.bS, h.bl, h.cB, h.kB, h.nB, h.hB, h.lB⟩
theorem LhW.read {w : World} {F : Nat → Prop} {X : LhS} (h : LhW w F X) : LhR w X.L X.d X.S X.So X.g X.count X.k X.cS X.num (some ⟨X.gb, 0, none⟩) X.body.length X.c :=
  ⟨h.blk.cell 0, h.blk.cell 2, h.blk.cell 5, h.shs.cell (by rw [List.getElem?_append_right (by rw [h.psl]; exact Nat.le_refl _), h.psl, Nat.sub_self]; rfl), h.sht.blk.cell 0, h.sht.blk.cell 4, h.cB, h.kB, ⟨h.nB.1, by have := h.nB.2; omega⟩, h.hB⟩
/-- Its blocks are five. -/
theorem LhW.apart {w : World} {F : Nat → Prop} {X : LhS} (h : LhW w F X) : X.L ≠ X.S ∧ X.L ≠ X.g ∧ X.L ≠ X.gb ∧ X.S ≠ X.g ∧ X.S ≠ X.gb ∧ X.g ≠ X.gb := by
  obtain ⟨cs, hs, _⟩ := h.shs.row
  obtain ⟨cb, hb, _⟩ := h.sht.bod.row
  refine ⟨fun e => ?_, fun e => ?_, fun e => ?_, fun e => ?_, fun e => ?_, fun e => ?_⟩
  · have b := h.blk; rw [e] at b; exact absurd (Blk.inj b hs).2 (by decide)
  · have b := h.blk; rw [e] at b; exact absurd (Blk.inj b h.sht.blk).2 (by decide)
  · have b := h.blk; rw [e] at b; exact absurd (Blk.inj b hb).2 (by decide)
  · rw [e] at hs; exact absurd (Blk.inj hs h.sht.blk).2 (by decide)
  · rw [e] at hs; exact absurd (Blk.inj hs hb).2 (by decide)
  · have b := h.sht.blk; rw [e] at b; exact absurd (Blk.inj b hb).2 (by decide)
theorem LhW.lsnApart {w : World} {F : Nat → Prop} {X : LhS} (h : LhW w F X) {a o : Nat} (ha : X.Al = some ⟨a, o, none⟩) : a ≠ X.L ∧ a ≠ X.S ∧ a ≠ X.g ∧ a ≠ X.gb := by
  obtain ⟨cl, hb⟩ := h.lsn.blkAt ha
  obtain ⟨cs, hs, _⟩ := h.shs.row
  obtain ⟨cb, hbb, _⟩ := h.sht.bod.row
  refine ⟨fun e => ?_, fun e => ?_, fun e => ?_, fun e => ?_⟩
  · rw [e] at hb; exact absurd (Blk.inj h.blk hb).2 (by decide)
  · rw [e] at hb; exact absurd (Blk.inj hs hb).2 (by decide)
  · rw [e] at hb; exact absurd (Blk.inj h.sht.blk hb).2 (by decide)
  · rw [e] at hb; exact absurd (Blk.inj hbb hb).2 (by decide)
/-- What Append leaves where the record fits. -/
def HFit (F : Nat → Prop) (X : LhS) (pr : List Int) (w : World) (e : Ending) (w' : World) : Prop := ∃ gb' c' Al' cl', F gb' ∧ e = .returned (.tuple #[.int .i64 (X.num * 512 + (X.body.length : Int) + 1), .int .i64 0]) ∧ LhW w' F { X with gb := gb', c := c', body := X.body ++ pr, Al := Al', cl := cl', ls := X.ls ++ [X.num * 512 + (X.body.length : Int) + 1] } ∧ Turned F w w'
/-- What Append leaves where a sheet more is wanted. -/
def HNew (F : Nat → Prop) (X : LhS) (pr : List Int) (w : World) (e : Ending) (w' : World) : Prop := ∃ S' So' g' gb' c' cS' Al' cl', F g' ∧ F gb' ∧ e = .returned (.tuple #[.int .i64 ((X.num + 1) * 512 + 1), .int .i64 0]) ∧ LhW w' F { X with S := S', So := So', k := X.k + 1, cS := cS', ps := X.ps ++ [.pointer (some ⟨X.g, 0, none⟩)], g := g', num := X.num + 1, tn := 0, bef := X.body.length, used := 0, safe := 0, lost := false, gb := gb', c := c', body := pr, Al := Al', cl := cl', ls := X.ls ++ [(X.num + 1) * 512 + 1] } ∧ Turned F w w'
/-- A row of bytes stands where a row of other things is appended to. -/
theorem hrp_far {w w5 : World} {gp m cb q n cap S So c c5 : Nat} {T : TypeId} {pr : List Int} {xs : List Value} {A5 : Option Addr} {o : Obj} (h : RowB w 5 gp m cb pr) (hr : RowO w T q S So n cap xs) (a5 : App3 (w.alloc o) w5 (some ⟨S, So, none⟩) A5 c c5) (hT : T ≠ 5) : RowB w5 5 gp m cb pr :=
  (h.turned ((Turned.refl (fun _ => False) w).alloc o) (fun e => e)).turned a5.turned (fun e => by
    obtain ⟨o', e⟩ := e
    injection e with e; injection e with e
    obtain ⟨c1, b1, _⟩ := hr.row
    obtain ⟨c2, b2, _⟩ := h.row
    rw [e] at b1
    exact hT (Blk.inj b1 b2).2)
/-- What the append to the last body leaves, and the store of it. -/
theorem happ_body {F : Nat → Prop} {n m c3 : Nat} {X : LhS} {w w2 w3 : World} {A3 : Option Addr} {pr : List Int} (H : LhW w2 F X) (hgF : F X.g ∧ F X.gb) (hB : ∀ i, w.heap.size ≤ i → F i) (T : Turned (fun _ => False) w w2) (o3 : OwnV w3 A3 (n + m) c3 (X.body ++ pr))
    (a3 : (A3 = some ⟨X.gb, 0, none⟩ ∧ c3 = X.c ∧ (some ⟨X.gb, 0, none⟩ : Option Addr) ≠ none ∧ Turned (fun q => (some ⟨X.gb, 0, none⟩ : Option Addr) = some ⟨q, 0, none⟩) w2 w3) ∨ (A3 = some ⟨w2.heap.size, 0, none⟩ ∧ Turned (fun _ => False) w2 w3)) (hnm : 0 < n + m) (hm5 : n + m ≤ 496) (hn : n = X.body.length) (hm : m = pr.length) :
    ∃ g3, F g3 ∧ A3 = some ⟨g3, 0, none⟩ ∧ w3.cell? ⟨X.g, 4, none⟩ = some (.slice (some ⟨X.gb, 0, none⟩) X.body.length X.c) ∧ w3.frozen? ⟨X.g, 4, none⟩ = false ∧
      LhW (w3.setCell ⟨X.g, 4, none⟩ (.slice (some ⟨g3, 0, none⟩) (n + m) c3)) F { X with gb := g3, c := c3, body := X.body ++ pr } ∧ Turned F w (w3.setCell ⟨X.g, 4, none⟩ (.slice (some ⟨g3, 0, none⟩) (n + m) c3)) := by
  obtain ⟨p1, p2, p3, p4, p5, p6⟩ := H.apart
  obtain ⟨g3, rfl, r3⟩ := o3.some_ hnm
  have hl : (X.body ++ pr).length = n + m := by rw [List.length_append, hn, hm]
  have hW : ∃ W : Nat → Prop, Turned W w2 w3 ∧ (∀ q, W q → q = X.gb) ∧ (g3 = X.gb ∨ g3 = w2.heap.size) := by
    rcases a3 with ⟨e, _, _, t⟩ | ⟨e, t⟩
    · injection e with e; injection e with e
      exact ⟨_, t, fun q e => by injection e with e; injection e with e; exact e.symm, .inl e⟩
    · injection e with e; injection e with e
      exact ⟨_, t, fun q e => e.elim, .inr e⟩
  obtain ⟨W, t, hq, hg3⟩ := hW
  have hBg3 : F g3 := by
    rcases hg3 with e | e
    · rw [e]; exact hgF.2
    · exact hB _ (by rw [e]; exact T.size)
  have hW' : ∀ q, q ≠ X.gb → ¬ W q := fun q h e => h (hq q e)
  have hsh := H.sht.blk.turned t (hW' _ p6)
  have hg3g : g3 ≠ X.g := by
    rcases hg3 with e | e
    · rw [e]; exact fun e => p6 e.symm
    · have := H.sht.blk.lt; omega
  have hset := hsh.set_ 4 (.slice (some ⟨g3, 0, none⟩) (n + m) c3)
  rw [shtC_set4] at hset
  have ts := (Turned.refl (fun i => i = X.g) w3).setCell (p := ⟨X.g, 4, none⟩) (.inl rfl) (.slice (some ⟨g3, 0, none⟩) (n + m) c3)
  have hal : ∀ q o, X.Al = some ⟨q, o, none⟩ → ¬ W q := fun q o e => hW' q (H.lsnApart e).2.2.2
  have hal2 : ∀ q o, X.Al = some ⟨q, o, none⟩ → ¬ (q = X.g) := fun q o e => (H.lsnApart e).2.2.1
  refine ⟨g3, hBg3, rfl, hsh.cell 4, hsh.frozen 4, ⟨(H.blk.turned t (hW' _ p3)).turned ts (fun e => p2 e), (H.shs.turned t (hW' _ p5)).turned ts (fun e => p4 e), H.psl, (H.lsn.turned t hal).turned ts hal2, ⟨?_, ?_⟩, H.bL, H.bS, H.bl, H.cB, H.kB, H.nB, by show (X.body ++ pr).length ≤ 496; omega, H.lB⟩, ?_⟩
  · show Blk _ X.g _ (shtC X.num X.tn X.bef X.used (some ⟨g3, 0, none⟩) (X.body ++ pr).length c3 X.safe X.lost)
    rw [hl]; exact hset
  · show RowB _ _ g3 (X.body ++ pr).length c3 (X.body ++ pr)
    rw [hl]
    exact r3.turned ts (fun e => hg3g e)
  · have t1 : Turned F w w3 := (T.mono (fun _ e => e.elim)).trans t (fun _ e => e) (fun q e => .inl (by rw [hq q e]; exact hgF.2))
    exact t1.setCell (p := ⟨X.g, 4, none⟩) (.inl hgF.1) _
/-- A log whose last sheet has been made, and has no body yet. -/
structure LhN (w : World) (F : Nat → Prop) (X : LhS) : Prop where
  blk : Blk w X.L 65 (logC X.d X.first X.count X.turn X.oldest (some ⟨X.S, X.So, none⟩) (X.k + 1) X.cS X.Al X.ls.length X.cl)
  shs : RowO w 68 1 X.S X.So (X.k + 1) X.cS (X.ps ++ [.pointer (some ⟨X.g, 0, none⟩)])
  psl : X.ps.length = X.k
  lsn : OwnO w 2 1 X.Al X.ls.length X.cl (i64s X.ls)
  sht : Blk w X.g 74 (shtC X.num X.tn X.bef X.used none 0 0 X.safe X.lost)
  bL : F X.L
  bS : F X.S
  bg : F X.g
  bl : ∀ a o, X.Al = some ⟨a, o, none⟩ → F a
  cB : 1 ≤ X.count ∧ X.count ≤ 10000
  kB : X.k < 10000
  nB : 0 ≤ X.num ∧ X.num ≤ 9007199254740000
  lB : X.ls.length ≤ 10000000
/-- A sheet more: what the append to the row of sheets leaves, and the store of it. -/
theorem happ_sheet {F : Nat → Prop} {c5 g' : Nat} {X : LhS} {w w4 w5 : World} {A5 : Option Addr} {o : Obj} {num' bef' : Int} (H : LhW w4 F X) (hB : ∀ i, w4.heap.size ≤ i → F i) (T : Turned F w w4) (hg : Blk w4 g' 74 (shtC num' 0 bef' 0 none 0 0 0 false)) (hg' : F g')
    (o5 : OwnO w5 68 1 A5 (X.k + 1 + 1) c5 ((X.ps ++ [.pointer (some ⟨X.g, 0, none⟩)]) ++ [.pointer (some ⟨g', 0, none⟩)])) (a5 : App3 (w4.alloc o) w5 (some ⟨X.S, X.So, none⟩) A5 X.cS c5) (hk : X.k + 1 < 10000) (hn : 0 ≤ num' ∧ num' ≤ 9007199254740000) :
    w5.cell? ⟨X.L, 5, none⟩ = some (.slice (some ⟨X.S, X.So, none⟩) (X.k + 1) X.cS) ∧ w5.frozen? ⟨X.L, 5, none⟩ = false ∧ ∃ S' So', A5 = some ⟨S', So', none⟩ ∧
      LhN (w5.setCell ⟨X.L, 5, none⟩ (.slice A5 (X.k + 1 + 1) c5)) F { X with S := S', So := So', k := X.k + 1, cS := c5, ps := X.ps ++ [.pointer (some ⟨X.g, 0, none⟩)], g := g', num := num', tn := 0, bef := bef', used := 0, safe := 0, lost := false, body := [], c := 0 } ∧ Turned F w (w5.setCell ⟨X.L, 5, none⟩ (.slice A5 (X.k + 1 + 1) c5)) := by
  obtain ⟨p1, p2, p3, p4, p5, p6⟩ := H.apart
  have ta := (Turned.refl (fun _ => False) w4).alloc o
  have H4 := H.fresh ta
  have hg4 := hg.turned ta (fun e => e)
  have t := a5.turned
  have hS : ∀ q, q ≠ X.S → ¬ (∃ o, (some ⟨X.S, X.So, none⟩ : Option Addr) = some ⟨q, o, none⟩) := fun q hq ⟨o, e⟩ => by injection e with e; injection e with e; exact hq e.symm
  have hb := H4.blk.turned t (hS _ p1)
  have hset := hb.set_ 5 (.slice A5 (X.k + 1 + 1) c5)
  rw [logC_set5] at hset
  have ts := (Turned.refl (fun i => i = X.L) w5).setCell (p := ⟨X.L, 5, none⟩) (.inl rfl) (.slice A5 (X.k + 1 + 1) c5)
  obtain ⟨S', So', rfl, r5⟩ := o5.some_ (by omega)
  have hSL : S' ≠ X.L := fun e => by
    obtain ⟨cs, hr, _⟩ := r5.row
    rw [e] at hr
    exact absurd (Blk.inj hb hr).2 (by decide)
  have hBS : F S' := by
    rcases a5 with ⟨e2, _, _, _⟩ | ⟨e2, _⟩
    · injection e2 with e2; injection e2 with e2; rw [e2]; exact H.bS
    · injection e2 with e2; injection e2 with e2; exact hB _ (by rw [e2]; exact ta.size)
  have hgS : g' ≠ X.S := fun e => by
    obtain ⟨cs, hr, _⟩ := H.shs.row
    rw [e] at hg
    exact absurd (Blk.inj hg hr).2 (by decide)
  have hgL : g' ≠ X.L := fun e => by
    rw [e] at hg
    exact absurd (Blk.inj hg H.blk).2 (by decide)
  have hal : ∀ q o, X.Al = some ⟨q, o, none⟩ → q ≠ X.L ∧ q ≠ X.S := fun q o e => ⟨(H.lsnApart e).1, (H.lsnApart e).2.1⟩
  refine ⟨hb.cell 5, hb.frozen 5, S', So', rfl, ⟨?_, ?_, ?_, (H4.lsn.turned t (fun q o e => hS q (hal q o e).2)).turned ts (fun q o e => (hal q o e).1), (hg4.turned t (hS _ hgS)).turned ts (fun e => hgL e), H.bL, hBS, hg', H.bl, H.cB, hk, hn, H.lB⟩, ?_⟩
  · exact hset
  · exact r5.turned ts (fun e => hSL e)
  · show (X.ps ++ [_]).length = X.k + 1
    rw [List.length_append, H.psl]; rfl
  · have t2 : Turned F w w5 := (T.alloc o).trans t (fun _ e => e) (fun q e => .inl (by obtain ⟨o, e⟩ := e; injection e with e; injection e with e; rw [← e]; exact H.bS))
    exact t2.setCell (p := ⟨X.L, 5, none⟩) (.inl H.bL) _
/-- The first bytes of a sheet. -/
theorem happ_first {F : Nat → Prop} {m c3 : Nat} {X : LhS} {w w2 w3 : World} {A3 : Option Addr} {pr : List Int} (H : LhN w2 F X) (hB : ∀ i, w2.heap.size ≤ i → F i) (T : Turned F w w2) (o3 : OwnV w3 A3 m c3 pr)
    (a3 : (A3 = none ∧ c3 = 0 ∧ (none : Option Addr) ≠ none ∧ Turned (fun q => (none : Option Addr) = some ⟨q, 0, none⟩) w2 w3) ∨ (A3 = some ⟨w2.heap.size, 0, none⟩ ∧ Turned (fun _ => False) w2 w3)) (hm0 : 0 < m) (hm5 : m ≤ 496) (hm : m = pr.length) :
    ∃ g3, F g3 ∧ A3 = some ⟨g3, 0, none⟩ ∧ w3.cell? ⟨X.g, 4, none⟩ = some (.slice none 0 0) ∧ w3.frozen? ⟨X.g, 4, none⟩ = false ∧
      LhW (w3.setCell ⟨X.g, 4, none⟩ (.slice (some ⟨g3, 0, none⟩) m c3)) F { X with gb := g3, c := c3, body := pr } ∧ Turned F w (w3.setCell ⟨X.g, 4, none⟩ (.slice (some ⟨g3, 0, none⟩) m c3)) := by
  rcases a3 with ⟨_, _, e, _⟩ | ⟨rfl, t⟩
  · exact absurd rfl e
  have r3 := o3.row
  have hsh := H.sht.turned t (fun e => e)
  have hset := hsh.set_ 4 (.slice (some ⟨w2.heap.size, 0, none⟩) m c3)
  rw [shtC_set4] at hset
  have ts := (Turned.refl (fun i => i = X.g) w3).setCell (p := ⟨X.g, 4, none⟩) (.inl rfl) (.slice (some ⟨w2.heap.size, 0, none⟩) m c3)
  have hL : X.L ≠ X.g := fun e => by have b := H.blk; rw [e] at b; exact absurd (Blk.inj b H.sht).2 (by decide)
  obtain ⟨cs, hs, _⟩ := H.shs.row
  have hS : X.S ≠ X.g := fun e => by rw [e] at hs; exact absurd (Blk.inj hs H.sht).2 (by decide)
  have hal : ∀ q o, X.Al = some ⟨q, o, none⟩ → ¬ q = X.g := fun q o e h => by
    obtain ⟨cl, hb⟩ := H.lsn.blkAt e
    rw [h] at hb
    exact absurd (Blk.inj H.sht hb).2 (by decide)
  have hgl := H.sht.lt
  refine ⟨w2.heap.size, hB _ (Nat.le_refl _), rfl, hsh.cell 4, hsh.frozen 4, ⟨(H.blk.turned t (fun e => e)).turned ts (fun e => hL e), (H.shs.turned t (fun e => e)).turned ts (fun e => hS e), H.psl, (H.lsn.fresh t).turned ts hal, ⟨?_, ?_⟩, H.bL, H.bS, H.bl, H.cB, H.kB, H.nB, by show pr.length ≤ 496; omega, H.lB⟩, ?_⟩
  · show Blk _ X.g _ (shtC X.num X.tn X.bef X.used (some ⟨w2.heap.size, 0, none⟩) pr.length c3 X.safe X.lost)
    rw [← hm]; exact hset
  · show RowB _ _ w2.heap.size pr.length c3 pr
    rw [← hm]
    exact r3.turned ts (fun e => by omega)
  · exact ((T.trans t (fun _ e => e) (fun _ e => e.elim)).setCell (p := ⟨X.g, 4, none⟩) (.inl H.bg) _)
/-- What the append of a Lsn leaves, and the store of it. -/
theorem happ_lsns {F : Nat → Prop} {c5 : Nat} {X : LhS} {w w4 w5 : World} {A5 : Option Addr} {x : Int} {o : Obj} (H : LhW w4 F X) (hB : ∀ i, w4.heap.size ≤ i → F i) (T : Turned F w w4) (o5 : OwnO w5 2 1 A5 (X.ls.length + 1) c5 (i64s X.ls ++ [.int .i64 x])) (a5 : App3 (w4.alloc o) w5 X.Al A5 X.cl c5) (hll : X.ls.length < 10000000) :
    w5.cell? ⟨X.L, 6, none⟩ = some (.slice X.Al X.ls.length X.cl) ∧ w5.frozen? ⟨X.L, 6, none⟩ = false ∧
      LhW (w5.setCell ⟨X.L, 6, none⟩ (.slice A5 (X.ls.length + 1) c5)) F { X with Al := A5, cl := c5, ls := X.ls ++ [x] } ∧ Turned F w (w5.setCell ⟨X.L, 6, none⟩ (.slice A5 (X.ls.length + 1) c5)) := by
  obtain ⟨p1, p2, p3, p4, p5, p6⟩ := H.apart
  have ta := (Turned.refl (fun _ => False) w4).alloc o
  have H4 := H.fresh ta
  have t := a5.turned
  have hW : ∀ q, q = X.L ∨ q = X.S ∨ q = X.g ∨ q = X.gb → ¬ (∃ o, X.Al = some ⟨q, o, none⟩) := fun q hq ⟨o, e⟩ => by
    have := H.lsnApart e
    rcases hq with r | r | r | r <;> subst r
    · exact this.1 rfl
    · exact this.2.1 rfl
    · exact this.2.2.1 rfl
    · exact this.2.2.2 rfl
  have hb := H4.blk.turned t (hW _ (.inl rfl))
  have hset := hb.set_ 6 (.slice A5 (X.ls.length + 1) c5)
  rw [logC_set6] at hset
  have ts := (Turned.refl (fun i => i = X.L) w5).setCell (p := ⟨X.L, 6, none⟩) (.inl rfl) (.slice A5 (X.ls.length + 1) c5)
  have hl : (X.ls ++ [x]).length = X.ls.length + 1 := by simp
  have hA5 : ∀ q o, A5 = some ⟨q, o, none⟩ → F q ∧ q ≠ X.L := fun q o e => by
    rcases a5 with ⟨e2, _, _, _⟩ | ⟨e2, _⟩
    · rw [e2] at e; exact ⟨H.bl q o e, (H.lsnApart e).1⟩
    · rw [e2] at e
      injection e with e; injection e with e
      have h1 := ta.size
      have h2 := H.blk.lt
      have h3 := H4.blk.lt
      exact ⟨hB _ (by rw [← e]; exact h1), by omega⟩
  refine ⟨hb.cell 6, hb.frozen 6, ⟨?_, (H4.shs.turned t (hW _ (.inr (.inl rfl)))).turned ts (fun e => p1 e.symm), H.psl, ?_, (H4.sht.turned t (hW _ (.inr (.inr (.inl rfl)))) (hW _ (.inr (.inr (.inr rfl))))).turned ts (fun e => p2 e.symm) (fun e => p3 e.symm), H.bL, H.bS, fun q o e => (hA5 q o e).1, H.cB, H.kB, H.nB, H.hB, by show (X.ls ++ [x]).length ≤ 10000000; omega⟩, ?_⟩
  · show Blk _ X.L _ (logC X.d X.first X.count X.turn X.oldest (some ⟨X.S, X.So, none⟩) (X.k + 1) X.cS A5 (X.ls ++ [x]).length c5)
    rw [hl]; exact hset
  · show OwnO _ _ 1 A5 (X.ls ++ [x]).length c5 (i64s (X.ls ++ [x]))
    rw [hl, i64s_app]
    exact o5.turned ts (fun q o e => (hA5 q o e).2)
  · have t2 : Turned F w w5 := (T.alloc o).trans t (fun _ e => e) (fun q e => .inl (by obtain ⟨o, e⟩ := e; exact H.bl q o e))
    exact t2.setCell (p := ⟨X.L, 6, none⟩) (.inl H.bL) _
set_option maxRecDepth 100000 in
set_option maxHeartbeats 2000000 in
theorem happ_fit (F : Nat → Prop) (X : LhS) (R : Rec) (S : RecS) (w : World) (h : LhW w F X) (hgF : F X.g ∧ F X.gb) (hR : rightR R = true) (hI : RecIs w R S) (hBw : ∀ i, w.heap.size ≤ i → F i) (hlen : 3 ≤ (putR R).length ∧ (putR R).length ≤ 496) (hll : X.ls.length < 10000000) (hf : X.body.length + (putR R).length ≤ 496) :
    Calls Tryd.prog 8 #[.pointer (some ⟨X.L, 0, none⟩), .agg (recC R S)] w (HFit F X (putR R) w) := by
  obtain ⟨L, d, Sb, So, g, gb, first, count, turn, oldest, k, cS, ps, Al, cl, ls, num, tn, bef, used, safe, body, c, lost⟩ := X
  have hP := Lib.hid (fun (w' : World) (t : Turned (fun _ => False) w w') => rput_any R S w' (hI.fresh t))
  unfold RPut at hP
  rw [hR] at hP
  simp only [if_true] at hP
  generalize putR R = pr at *
  have B1 := Lib.hid (Blk.new w 39 (recC R S))
  have T0 := Lib.hid ((Turned.refl (fun _ => False) w).alloc (.cells (recC R S) 39))
  have H := Lib.hid (fun (w' : World) (t : Turned (fun _ => False) w w') => h.fresh t)
  have HB := Lib.hid hBw
  have HGF := Lib.hid hgF
  clear h hR hI hBw hgF
  obtain ⟨lsn, work, prev, next, kind, page, key, old, new, dirty, opn⟩ := R
  obtain ⟨⟨KA, Kn, Kc⟩, ⟨OA, On, Oc⟩, ⟨NA, Nn, Nc⟩, ⟨DA, Dn, Dc⟩, ⟨PA, Pn, Pc⟩⟩ := S
  unfold recC at *
  simp only at *
  obtain ⟨hl3, hl4⟩ := hlen
  obtain ⟨m, hm⟩ : ∃ m, m = pr.length := ⟨_, rfl⟩
  rw [← hm] at hP hl3 hl4
  have HM := Lib.hid hm
  obtain ⟨n, hn⟩ : ∃ n, n = body.length := ⟨_, rfl⟩
  have HN := Lib.hid hn
  have hn5 := Lib.hid (H.out w (Turned.refl _ _)).hB
  have hn5b : n ≤ 496 := by have : body.length ≤ 496 := hn5.out; omega
  clear hm hn
  have hmi : (m : Int) ≤ 496 := by omega
  have hm1 : (3 : Int) ≤ (m : Int) := by omega
  go_enter Tryd.func8, Tryd.ntmps8
  go_wp2_with fail
  generalize w.alloc (.cells #[.int .i64 lsn, .int .i64 work, .int .i64 prev, .int .i64 next, .int .u8 kind, .int .i64 page, .slice KA Kn Kc, .slice OA On Oc, .slice NA Nn Nc, .slice DA Dn Dc, .slice PA Pn Pc] 39) = w0 at *
  obtain ⟨bx, hbx⟩ : ∃ bx, bx = w.heap.size := ⟨_, rfl⟩
  rw [← hbx] at B1 ⊢
  clear hbx
  refine (lthere_yes L d w0 (H.out _ T0.out).read.d0).mono ?_
  rintro e w1 ⟨rfl, rfl⟩
  obtain ⟨x0, x1, x2, x3, x4, x5, x6, x7, x8, x9, x10⟩ := B1.out.cells11
  go_wp2_with fail
  clear x0 x1 x2 x3 x4 x5 x6 x7 x8 x9 x10
  refine (hP.out _ T0.out).mono ?_
  rintro e w1 ⟨Ab, cb, rfl, ob, gbB, t1⟩
  have OB := Lib.hid ob
  have GB := Lib.hid gbB
  have T1 := Lib.hid (T0.out.and_ t1)
  have s0 := T0.out.size
  have HS := Lib.hid s0
  clear ob gbB t1 hP B1 s0
  go_wp2_with fail
  refine (hlast_any L Sb So g k cS w1 (H.out _ T1.out).read.shs (H.out _ T1.out).read.lst (by have h9 : k < 10000 := (H.out _ T1.out).kB; omega)).mono ?_
  rintro e w2 ⟨rfl, t2⟩
  have T2 := Lib.hid (T1.out.and_ t2)
  have OB := Lib.hid (OB.out.turned t2 (fun _ _ e => e))
  have GB := Lib.hid (fun q e => Nat.le_trans T0.out.size (GB.out q e))
  clear t2 T1
  have x4 : w2.cell? ⟨g, 4, none⟩ = some (.slice (some ⟨gb, 0, none⟩) n c) := by have h9 : w2.cell? ⟨g, 4, none⟩ = some (.slice (some ⟨gb, 0, none⟩) body.length c) := (H.out _ T2.out).read.bod; rw [← HN.out] at h9; exact h9
  have hf2 : n + m ≤ 496 := by have := HM.out; have := HN.out; omega
  have hfi : (n : Int) + (m : Int) ≤ 496 := by omega
  clear hf
  go_wp2_with fail
  refine (llsn_any g num n w2 (H.out _ T2.out).read.nm ⟨(H.out _ T2.out).nB.1, by have h9 : num ≤ 9007199254740000 := (H.out _ T2.out).nB.2; omega⟩ (by omega)).mono ?_
  rintro e w3 ⟨rfl, rfl⟩
  obtain ⟨gp, rfl, rp⟩ := OB.out.some_ (by omega)
  have RP := Lib.hid rp
  clear rp
  have HL := Lib.hid (H.out _ T2.out)
  have hap := HL.out.apart
  have hlen := HL.out.sht.bod
  skip
  have bodO : OwnV w2 (some ⟨gb, 0, none⟩) n c body := by have := OwnV.of_row HL.out.sht.bod; rw [← HN.out] at this; exact this
  have BO := Lib.hid bodO
  clear bodO hlen
  go_wp2_with (first | (at_builtin; go_loud (refine wpList_app2 bytT rfl (.tmp 77) (.tmp 78) rfl BO.out ⟨gp, 0, none⟩ m cb pr HM.out.symm (news_of_row RP.out) (by omega) (by omega) rfl rfl ?_; intro A3 c3 w3 o3 a3; have hst := happ_body HL.out HGF.out HB.out T2.out o3 a3 (by omega) hf2 HN.out HM.out; obtain ⟨g3, hg3F, e3, y4, yf, HT0, HT1⟩ := hst; have HG3 := Lib.hid hg3F; clear hg3F; subst e3; have LT := Lib.hid HT0; have TT := Lib.hid HT1; have z6 : (w3.setCell ⟨g, 4, none⟩ (.slice (some ⟨g3, 0, none⟩) (n + m) c3)).cell? ⟨L, 6, none⟩ = some (.slice Al ls.length cl) := HT0.blk.cell 6; clear HT0 HT1 o3 a3)) | (at_builtin; go_loud (refine wpList_appO i64T rfl (.tmp 86) (.tmp 88) rfl (OwnO.fresh LT.out.lsn ((Turned.refl (fun _ => False) _).alloc (.cells #[.int .i64 (num * 512 + (n : Int) + 1)] 2))) ⟨w3.heap.size, 0, none⟩ 1 1 [.int .i64 (num * 512 + (n : Int) + 1)] rfl (new1_at _ w3.heap.size 2 _ (by simp)) (by simp [Value.oneCell']) (by omega) (by show ls.length + 1 ≤ maxLen; unfold maxLen; omega) (by show (ls.length + 1) * 8 ≤ _; omega) rfl rfl ?_; intro A5 c5 w5 o5 a5; have hst := happ_lsns LT.out (fun i hi => HB.out i (Nat.le_trans TT.out.size hi)) TT.out o5 a5 hll; obtain ⟨y6, yg, HT0, HT1⟩ := hst; have LF := Lib.hid HT0; have TF := Lib.hid HT1; clear HT0 HT1 o5 a5)))
  go_ret2
  have LF2 := LF.out
  have TF2 := TF.out
  clear LF TF LT TT
  obtain rfl := HN.out
  exact ⟨g3, c3, A5, c5, HG3.out, rfl, LF2, TF2⟩
set_option maxRecDepth 100000 in
set_option maxHeartbeats 2000000 in
theorem happ_full (F : Nat → Prop) (X : LhS) (R : Rec) (S : RecS) (w : World) (h : LhW w F X) (hR : rightR R = true) (hI : RecIs w R S) (hBw : ∀ i, w.heap.size ≤ i → F i) (hlen : 3 ≤ (putR R).length ∧ (putR R).length ≤ 496) (hll : X.ls.length < 10000000) (hf : 496 < X.body.length + (putR R).length) (hmo : X.count - 1 - ((X.k + 1 : Nat) : Int) = 0) :
    Calls Tryd.prog 8 #[.pointer (some ⟨X.L, 0, none⟩), .agg (recC R S)] w (fun e w' => e = .returned (.tuple #[.int .i64 0, .int .i64 5]) ∧ Turned (fun _ => False) w w') := by
  obtain ⟨L, d, Sb, So, g, gb, first, count, turn, oldest, k, cS, ps, Al, cl, ls, num, tn, bef, used, safe, body, c, lost⟩ := X
  have hP := Lib.hid (fun (w' : World) (t : Turned (fun _ => False) w w') => rput_any R S w' (hI.fresh t))
  unfold RPut at hP
  rw [hR] at hP
  simp only [if_true] at hP
  generalize putR R = pr at *
  have B1 := Lib.hid (Blk.new w 39 (recC R S))
  have T0 := Lib.hid ((Turned.refl (fun _ => False) w).alloc (.cells (recC R S) 39))
  have H := Lib.hid (fun (w' : World) (t : Turned (fun _ => False) w w') => h.fresh t)
  have HB := Lib.hid hBw
  clear h hR hI hBw
  obtain ⟨lsn, work, prev, next, kind, page, key, old, new, dirty, opn⟩ := R
  obtain ⟨⟨KA, Kn, Kc⟩, ⟨OA, On, Oc⟩, ⟨NA, Nn, Nc⟩, ⟨DA, Dn, Dc⟩, ⟨PA, Pn, Pc⟩⟩ := S
  unfold recC at *
  simp only at *
  obtain ⟨hl3, hl4⟩ := hlen
  obtain ⟨m, hm⟩ : ∃ m, m = pr.length := ⟨_, rfl⟩
  rw [← hm] at hP hl3 hl4
  have HM := Lib.hid hm
  obtain ⟨n, hn⟩ : ∃ n, n = body.length := ⟨_, rfl⟩
  have HN := Lib.hid hn
  have hn5 := Lib.hid (H.out w (Turned.refl _ _)).hB
  have hn5b : n ≤ 496 := by have : body.length ≤ 496 := hn5.out; omega
  clear hm hn
  have hmi : (m : Int) ≤ 496 := by omega
  have hm1 : (3 : Int) ≤ (m : Int) := by omega
  go_enter Tryd.func8, Tryd.ntmps8
  go_wp2_with fail
  generalize w.alloc (.cells #[.int .i64 lsn, .int .i64 work, .int .i64 prev, .int .i64 next, .int .u8 kind, .int .i64 page, .slice KA Kn Kc, .slice OA On Oc, .slice NA Nn Nc, .slice DA Dn Dc, .slice PA Pn Pc] 39) = w0 at *
  obtain ⟨bx, hbx⟩ : ∃ bx, bx = w.heap.size := ⟨_, rfl⟩
  rw [← hbx] at B1 ⊢
  clear hbx
  refine (lthere_yes L d w0 (H.out _ T0.out).read.d0).mono ?_
  rintro e w1 ⟨rfl, rfl⟩
  obtain ⟨x0, x1, x2, x3, x4, x5, x6, x7, x8, x9, x10⟩ := B1.out.cells11
  go_wp2_with fail
  clear x0 x1 x2 x3 x4 x5 x6 x7 x8 x9 x10
  refine (hP.out _ T0.out).mono ?_
  rintro e w1 ⟨Ab, cb, rfl, ob, gbB, t1⟩
  have OB := Lib.hid ob
  have GB := Lib.hid gbB
  have T1 := Lib.hid (T0.out.and_ t1)
  have s0 := T0.out.size
  have HS := Lib.hid s0
  clear ob gbB t1 hP B1 s0
  go_wp2_with fail
  refine (hlast_any L Sb So g k cS w1 (H.out _ T1.out).read.shs (H.out _ T1.out).read.lst (by have h9 : k < 10000 := (H.out _ T1.out).kB; omega)).mono ?_
  rintro e w2 ⟨rfl, t2⟩
  have T2 := Lib.hid (T1.out.and_ t2)
  have OB := Lib.hid (OB.out.turned t2 (fun _ _ e => e))
  have GB := Lib.hid (fun q e => Nat.le_trans T0.out.size (GB.out q e))
  clear t2 T1
  have x4 : w2.cell? ⟨g, 4, none⟩ = some (.slice (some ⟨gb, 0, none⟩) n c) := by have h9 : w2.cell? ⟨g, 4, none⟩ = some (.slice (some ⟨gb, 0, none⟩) body.length c) := (H.out _ T2.out).read.bod; rw [← HN.out] at h9; exact h9
  have hfi : 496 < (n : Int) + (m : Int) := by have := HM.out; have := HN.out; omega
  have hf3 : ¬ (n : Int) + (m : Int) ≤ 496 := by omega
  clear hf
  have HO := Lib.hid hmo
  clear hmo
  go_wp2_with fail
  refine (lmore_any L count _ (k + 1) cS w2 (H.out _ T2.out).read.cnt (H.out _ T2.out).read.shs (H.out _ T2.out).cB (by have h9 : k < 10000 := (H.out _ T2.out).kB; omega)).mono ?_
  rw [HO.out]
  rintro e w3 ⟨rfl, t3⟩
  have T3 := Lib.hid (T2.out.and_ t3)
  clear t3
  go_wp2_with fail
  go_ret2
  exact ⟨rfl, T3.out⟩
set_option maxRecDepth 100000 in
set_option maxHeartbeats 2000000 in
theorem happ_new (F : Nat → Prop) (X : LhS) (R : Rec) (S : RecS) (w : World) (h : LhW w F X) (hR : rightR R = true) (hI : RecIs w R S) (hBw : ∀ i, w.heap.size ≤ i → F i) (hlen : 3 ≤ (putR R).length ∧ (putR R).length ≤ 496) (hll : X.ls.length < 10000000) (hf : 496 < X.body.length + (putR R).length) (hmo : X.count - 1 - ((X.k + 1 : Nat) : Int) ≠ 0) (hkk : X.k + 1 < 10000) (hnn : X.num + 1 ≤ 9007199254740000) :
    Calls Tryd.prog 8 #[.pointer (some ⟨X.L, 0, none⟩), .agg (recC R S)] w (HNew F X (putR R) w) := by
  obtain ⟨L, d, Sb, So, g, gb, first, count, turn, oldest, k, cS, ps, Al, cl, ls, num, tn, bef, used, safe, body, c, lost⟩ := X
  have hP := Lib.hid (fun (w' : World) (t : Turned (fun _ => False) w w') => rput_any R S w' (hI.fresh t))
  unfold RPut at hP
  rw [hR] at hP
  simp only [if_true] at hP
  generalize putR R = pr at *
  have B1 := Lib.hid (Blk.new w 39 (recC R S))
  have T0 := Lib.hid ((Turned.refl (fun _ => False) w).alloc (.cells (recC R S) 39))
  have H := Lib.hid (fun (w' : World) (t : Turned (fun _ => False) w w') => h.fresh t)
  have HB := Lib.hid hBw
  clear h hR hI hBw
  obtain ⟨lsn, work, prev, next, kind, page, key, old, new, dirty, opn⟩ := R
  obtain ⟨⟨KA, Kn, Kc⟩, ⟨OA, On, Oc⟩, ⟨NA, Nn, Nc⟩, ⟨DA, Dn, Dc⟩, ⟨PA, Pn, Pc⟩⟩ := S
  unfold recC at *
  simp only at *
  obtain ⟨hl3, hl4⟩ := hlen
  obtain ⟨m, hm⟩ : ∃ m, m = pr.length := ⟨_, rfl⟩
  rw [← hm] at hP hl3 hl4
  have HM := Lib.hid hm
  obtain ⟨n, hn⟩ : ∃ n, n = body.length := ⟨_, rfl⟩
  have HN := Lib.hid hn
  have hn5 := Lib.hid (H.out w (Turned.refl _ _)).hB
  have hn5b : n ≤ 496 := by have : body.length ≤ 496 := hn5.out; omega
  clear hm hn
  have hmi : (m : Int) ≤ 496 := by omega
  have hm1 : (3 : Int) ≤ (m : Int) := by omega
  go_enter Tryd.func8, Tryd.ntmps8
  go_wp2_with fail
  generalize w.alloc (.cells #[.int .i64 lsn, .int .i64 work, .int .i64 prev, .int .i64 next, .int .u8 kind, .int .i64 page, .slice KA Kn Kc, .slice OA On Oc, .slice NA Nn Nc, .slice DA Dn Dc, .slice PA Pn Pc] 39) = w0 at *
  obtain ⟨bx, hbx⟩ : ∃ bx, bx = w.heap.size := ⟨_, rfl⟩
  rw [← hbx] at B1 ⊢
  clear hbx
  refine (lthere_yes L d w0 (H.out _ T0.out).read.d0).mono ?_
  rintro e w1 ⟨rfl, rfl⟩
  obtain ⟨x0, x1, x2, x3, x4, x5, x6, x7, x8, x9, x10⟩ := B1.out.cells11
  go_wp2_with fail
  clear x0 x1 x2 x3 x4 x5 x6 x7 x8 x9 x10
  refine (hP.out _ T0.out).mono ?_
  rintro e w1 ⟨Ab, cb, rfl, ob, gbB, t1⟩
  have OB := Lib.hid ob
  have GB := Lib.hid gbB
  have T1 := Lib.hid (T0.out.and_ t1)
  have s0 := T0.out.size
  have HS := Lib.hid s0
  clear ob gbB t1 hP B1 s0
  go_wp2_with fail
  refine (hlast_any L Sb So g k cS w1 (H.out _ T1.out).read.shs (H.out _ T1.out).read.lst (by have h9 : k < 10000 := (H.out _ T1.out).kB; omega)).mono ?_
  rintro e w2 ⟨rfl, t2⟩
  have T2 := Lib.hid (T1.out.and_ t2)
  have OB := Lib.hid (OB.out.turned t2 (fun _ _ e => e))
  have GB := Lib.hid (fun q e => Nat.le_trans T0.out.size (GB.out q e))
  clear t2 T1
  have x4 : w2.cell? ⟨g, 4, none⟩ = some (.slice (some ⟨gb, 0, none⟩) n c) := by have h9 : w2.cell? ⟨g, 4, none⟩ = some (.slice (some ⟨gb, 0, none⟩) body.length c) := (H.out _ T2.out).read.bod; rw [← HN.out] at h9; exact h9
  have mixed : Tryd.prog.follows .mixedOrders = true := by kernel_rfl
  have hfi : 496 < (n : Int) + (m : Int) := by have := HM.out; have := HN.out; omega
  have hf3 : ¬ (n : Int) + (m : Int) ≤ 496 := by omega
  clear hf
  go_wp2_with fail
  refine (lmore_any L count _ (k + 1) cS w2 (H.out _ T2.out).read.cnt (H.out _ T2.out).read.shs (H.out _ T2.out).cB (by have h9 : k < 10000 := (H.out _ T2.out).kB; omega)).mono ?_
  obtain ⟨mo, hmo2⟩ : ∃ mo : Int, mo = count - 1 - ((k + 1 : Nat) : Int) := ⟨_, rfl⟩
  rw [← hmo2] at hmo ⊢
  clear hmo2
  rintro e w3 ⟨rfl, t3⟩
  have T3 := Lib.hid (T2.out.and_ t3)
  have OB := Lib.hid (OB.out.turned t3 (fun _ _ e => e))
  clear t3
  have hmo3 : (mo == 0) = false := by simpa using hmo
  go_wp2_with fail
  refine wp_region_segs (fun w' => (w'.cell? ⟨g, 0, none⟩ = some (.int .i64 num) ∧ w'.cell? ⟨g, 4, none⟩ = some (.slice (some ⟨gb, 0, none⟩) n c))) (segT [0, 1, 2, 3, 4, 5, 6, 7, 8, 9, 10, 11, 12] ++ segF [13] ++ segT [14]) mixed (by kernel_rfl) (fun _ _ _ _ _ h => h) ?_
  simp only [segT, segF, pickSegs, List.map_cons, List.map_nil, List.cons_append, List.nil_append, List.filterMap_cons, List.filterMap_nil, List.getElem?_cons_zero, List.getElem?_cons_succ, Option.map_some]
  have T4 := Lib.hid T3.out.drew
  have OB := Lib.hid (OB.out.turned ((Turned.refl (fun _ => False) w3).drew) (fun _ _ e => e))
  generalize w3.drew = v0 at *
  have hS := And.intro (show v0.cell? ⟨g, 0, none⟩ = some (.int .i64 num) from (H.out _ T4.out).read.nm) (show v0.cell? ⟨g, 4, none⟩ = some (.slice (some ⟨gb, 0, none⟩) n c) by have h9 : v0.cell? ⟨g, 4, none⟩ = some (.slice (some ⟨gb, 0, none⟩) body.length c) := (H.out _ T4.out).read.bod; rw [← HN.out] at h9; exact h9)
  have hnb : 0 ≤ num ∧ num ≤ 9007199254740000 := (H.out _ T4.out).nB
  have hw1 : IntKind.i64.wrap (num + 1) = num + 1 := IntWalk.i64_in _ (by omega)
  (refine wpSegs_take (v := ?_) hS rfl (fun w' hw => ?_) ?_; rotate_left; (obtain ⟨c0, c1⟩ := hw; (focus (go_simp; (try with_reducible rfl); done))); try simp only [Act.put, List.setIfInBounds_toArray, List.set_cons_zero, List.set_cons_succ])
  (refine wpSegs_take (v := ?_) hS rfl (fun w' hw => ?_) ?_; rotate_left; (obtain ⟨c0, c1⟩ := hw; (focus (go_simp; (try with_reducible rfl); done))); try simp only [Act.put, List.setIfInBounds_toArray, List.set_cons_zero, List.set_cons_succ])
  (refine wpSegs_take (v := ?_) hS rfl (fun w' hw => ?_) ?_; rotate_left; (obtain ⟨c0, c1⟩ := hw; (focus (go_simp; (try with_reducible rfl); done))); try simp only [Act.put, List.setIfInBounds_toArray, List.set_cons_zero, List.set_cons_succ])
  (refine wpSegs_take (v := ?_) hS rfl (fun w' hw => ?_) ?_; rotate_left; (obtain ⟨c0, c1⟩ := hw; (focus (go_simp; (try with_reducible rfl); done))); try simp only [Act.put, List.setIfInBounds_toArray, List.set_cons_zero, List.set_cons_succ])
  (refine wpSegs_take (v := ?_) hS rfl (fun w' hw => ?_) ?_; rotate_left; (obtain ⟨c0, c1⟩ := hw; (focus (go_simp; (try with_reducible rfl); done))); try simp only [Act.put, List.setIfInBounds_toArray, List.set_cons_zero, List.set_cons_succ])
  (refine wpSegs_take (v := ?_) hS rfl (fun w' hw => ?_) ?_; rotate_left; (obtain ⟨c0, c1⟩ := hw; (focus (go_simp; (try with_reducible rfl); done))); try simp only [Act.put, List.setIfInBounds_toArray, List.set_cons_zero, List.set_cons_succ])
  (refine wpSegs_take (v := ?_) hS rfl (fun w' hw => ?_) ?_; rotate_left; (obtain ⟨c0, c1⟩ := hw; (focus (go_simp; (try with_reducible rfl); done))); try simp only [Act.put, List.setIfInBounds_toArray, List.set_cons_zero, List.set_cons_succ])
  (refine wpSegs_take (v := ?_) hS rfl (fun w' hw => ?_) ?_; rotate_left; (obtain ⟨c0, c1⟩ := hw; (focus (go_simp; (try with_reducible rfl); done))); try simp only [Act.put, List.setIfInBounds_toArray, List.set_cons_zero, List.set_cons_succ])
  (refine wpSegs_take (v := ?_) hS rfl (fun w' hw => ?_) ?_; rotate_left; (obtain ⟨c0, c1⟩ := hw; (focus (go_simp; (try with_reducible rfl); done))); try simp only [Act.put, List.setIfInBounds_toArray, List.set_cons_zero, List.set_cons_succ])
  (refine wpSegs_take (v := ?_) hS rfl (fun w' hw => ?_) ?_; rotate_left; (obtain ⟨c0, c1⟩ := hw; (focus (go_simp; (try with_reducible rfl); done))); try simp only [Act.put, List.setIfInBounds_toArray, List.set_cons_zero, List.set_cons_succ])
  (refine wpSegs_take (v := ?_) hS rfl (fun w' hw => ?_) ?_; rotate_left; (obtain ⟨c0, c1⟩ := hw; (focus (go_simp; (try with_reducible rfl); done))); try simp only [Act.put, List.setIfInBounds_toArray, List.set_cons_zero, List.set_cons_succ])
  (refine wpSegs_take (v := ?_) hS rfl (fun w' hw => ?_) ?_; rotate_left; (obtain ⟨c0, c1⟩ := hw; (focus (go_simp; (try with_reducible rfl); done))); try simp only [Act.put, List.setIfInBounds_toArray, List.set_cons_zero, List.set_cons_succ])
  (refine wpSegs_take (v := ?_) hS rfl (fun w' hw => ?_) ?_; rotate_left; (obtain ⟨c0, c1⟩ := hw; (focus (go_simp; (try with_reducible rfl); done))); try simp only [Act.put, List.setIfInBounds_toArray, List.set_cons_zero, List.set_cons_succ])
  refine wpSegs_run rfl (fun K hK => ?_)
  go_simp
  have tx := (Turned.refl (fun _ => False) v0).alloc (.cells (#[.int .i64 (num + 1), .int .i64 0, .int .i64 (n : Int), .int .i64 0, .slice none 0 0, .int .i64 0, .bool false]) 74)
  have hS := And.intro (cell_turned tx hS.1 (fun e => e)) (cell_turned tx hS.2 (fun e => e))
  refine hK.out _ _ hS ?_
  clear hK K
  try simp only [Act.put, List.setIfInBounds_toArray, List.set_cons_zero, List.set_cons_succ]
  (refine wpSegs_take (v := ?_) hS rfl (fun w' hw => ?_) ?_; rotate_left; (obtain ⟨c0, c1⟩ := hw; (focus (go_simp; (try with_reducible rfl); done))); try simp only [Act.put, List.setIfInBounds_toArray, List.set_cons_zero, List.set_cons_succ])
  refine wpSegs_nil ?_
  clear hS
  have T5 := Lib.hid (T4.out.alloc (.cells (#[.int .i64 (num + 1), .int .i64 0, .int .i64 (n : Int), .int .i64 0, .slice none 0 0, .int .i64 0, .bool false]) 74))
  have BG := Lib.hid (show Blk (v0.alloc (.cells (#[.int .i64 (num + 1), .int .i64 0, .int .i64 (n : Int), .int .i64 0, .slice none 0 0, .int .i64 0, .bool false]) 74)) v0.heap.size 74 (shtC (num + 1) 0 (n : Int) 0 none 0 0 0 false) from Blk.new _ _ _)
  have OB := Lib.hid (OB.out.turned tx (fun _ _ e => e))
  clear tx
  generalize v0.alloc (.cells #[.int .i64 (num + 1), .int .i64 0, .int .i64 (n : Int), .int .i64 0, .slice none 0 0, .int .i64 0, .bool false] 74) = v1 at *
  obtain ⟨gq, hgq⟩ : ∃ gq, gq = v0.heap.size := ⟨_, rfl⟩
  rw [← hgq] at BG ⊢
  have hBq := Lib.hid (show F gq from HB.out _ (by rw [hgq]; exact T4.out.size))
  clear hgq
  have HL := Lib.hid (H.out _ T5.out)
  have TB := Lib.hid (T5.out.mono (W' := fun i => F i) (fun _ e => e.elim))
  obtain ⟨gp, rfl, rp⟩ := OB.out.some_ (by omega)
  have RP := Lib.hid rp
  clear rp
  have hB1 := Lib.hid (show ∀ i, v1.heap.size ≤ i → F i from fun i hi => HB.out i (Nat.le_trans T5.out.size hi))
  have z5 : v1.cell? ⟨L, 5, none⟩ = some (.slice (some ⟨Sb, So, none⟩) (k + 1) cS) := HL.out.blk.cell 5
  have hkk2 : k < 10000 := by omega
  have hgpL : ¬ gp = L := fun e => by
    obtain ⟨c2, b2, _⟩ := RP.out.row
    rw [e] at b2
    exact absurd (Blk.inj HL.out.blk b2).2 (by decide)
  go_wp2_with (at_builtin; go_loud (refine wpList_appO ptrT rfl (.tmp 38) (.tmp 40) rfl (OwnO.fresh (OwnO.of_row HL.out.shs) ((Turned.refl (fun _ => False) v1).alloc (.cells #[.pointer (some ⟨gq, 0, none⟩)] 68))) ⟨v1.heap.size, 0, none⟩ 1 1 [.pointer (some ⟨gq, 0, none⟩)] rfl (new1_news v1 68 _) (by simp [Value.oneCell']) (by omega) (by show k + 1 + 1 ≤ maxLen; unfold maxLen; omega) (by show (k + 1 + 1) * 8 ≤ _; omega) rfl rfl ?_; intro A5 c5 w5 o5 a5; have hst := happ_sheet HL.out hB1.out TB.out BG.out hBq.out o5 a5 hkk ⟨by omega, hnn⟩; obtain ⟨y5, yg, S', So', e5, HT0, HT1⟩ := hst; subst e5; have LN := Lib.hid HT0; have TN := Lib.hid HT1; have RP5 := hrp_far (T := 68) RP.out HL.out.shs a5 (show (68 : Nat) ≠ 5 from by decide); have RP := Lib.hid (RowB.turned RP5 ((Turned.refl (fun i => i = L) w5).setCell (p := ⟨L, 5, none⟩) (.inl rfl) (.slice (some ⟨S', So', none⟩) (k + 1 + 1) c5)) hgpL); have z4 : (w5.setCell ⟨L, 5, none⟩ (.slice (some ⟨S', So', none⟩) (k + 1 + 1) c5)).cell? ⟨gq, 4, none⟩ = some (.slice none 0 0) := HT0.sht.cell 4; clear RP5 HT0 HT1 o5 a5))
  refine (llsn_any gq (num + 1) 0 _ (LN.out.sht.cell 0) ⟨by omega, by omega⟩ (by omega)).mono ?_
  rintro e w6 ⟨rfl, rfl⟩
  generalize w5.setCell ⟨L, 5, none⟩ (.slice (some ⟨S', So', none⟩) (k + 1 + 1) c5) = w6 at *
  have hB6 := Lib.hid (show ∀ i, w6.heap.size ≤ i → F i from fun i hi => HB.out i (Nat.le_trans TN.out.size hi))
  clear y5 yg z5
  go_wp2_with (first | (at_builtin; go_loud (refine wpList_app2 bytT rfl (.tmp 77) (.tmp 78) rfl (OwnV.nil w6) ⟨gp, 0, none⟩ m cb pr HM.out.symm (news_of_row RP.out) (by omega) (by omega) rfl rfl ?_; intro A3 c3 w7 o3 a3; rw [Nat.zero_add, List.nil_append] at o3; have hst := happ_first LN.out hB6.out TN.out o3 a3 (by omega) (by omega) HM.out; obtain ⟨g3, hg3F, e3, y4, yf, HT0, HT1⟩ := hst; have HG3 := Lib.hid hg3F; clear hg3F; subst e3; have LT := Lib.hid HT0; have TT := Lib.hid HT1; have z6 : (w7.setCell ⟨gq, 4, none⟩ (.slice (some ⟨g3, 0, none⟩) m c3)).cell? ⟨L, 6, none⟩ = some (.slice Al ls.length cl) := HT0.blk.cell 6; clear HT0 HT1 o3 a3)) | (at_builtin; go_loud (refine wpList_appO i64T rfl (.tmp 86) (.tmp 88) rfl (OwnO.fresh LT.out.lsn ((Turned.refl (fun _ => False) _).alloc (.cells #[.int .i64 ((num + 1) * 512 + 1)] 2))) ⟨w7.heap.size, 0, none⟩ 1 1 [.int .i64 ((num + 1) * 512 + 1)] rfl (new1_at _ w7.heap.size 2 _ (by simp)) (by simp [Value.oneCell']) (by omega) (by show ls.length + 1 ≤ maxLen; unfold maxLen; omega) (by show (ls.length + 1) * 8 ≤ _; omega) rfl rfl ?_; intro A8 c8 w8 o8 a8; have hst := happ_lsns LT.out (fun i hi => HB.out i (Nat.le_trans TT.out.size hi)) TT.out o8 a8 hll; obtain ⟨y6, yh, HT0, HT1⟩ := hst; have LF := Lib.hid HT0; have TF := Lib.hid HT1; clear HT0 HT1 o8 a8)))
  go_ret2
  have LF2 := LF.out
  have TF2 := TF.out
  clear LF TF LT TT
  obtain rfl := HN.out
  exact ⟨S', So', gq, g3, c3, c5, A8, c8, hBq.out, HG3.out, rfl, LF2, TF2⟩
end Go.Proofs.YtfheikmjjijdpaaDoor

