/-
  A log in memory, each of its sheets known whole; log.Append in these words. Conditions: a right record, whose lists do not lie in the log's memory.
-/
import Derived.Test.YtfheikmjjijdpaaDoorQLhE
namespace Go.Proofs.YtfheikmjjijdpaaDoor
open Go.RowKit Go.Maps
set_option linter.unusedVariables false
set_option linter.unusedSimpArgs false

/-- A sheet in memory: its block, its body's, what it holds. -/
structure ShM where
  g : Nat
  gb : Nat
  c : Nat
  num : Int
  tn : Int
  bef : Int
  used : Int
  body : List Int
  safe : Int
  lost : Bool
def ShM.ptr (s : ShM) : Value := .pointer (some ⟨s.g, 0, none⟩)
def ShM.Is (s : ShM) (w : World) : Prop := ShtIs w s.g s.gb s.c s.num s.tn s.bef s.used s.body s.safe s.lost
structure LgM where
  L : Nat
  d : Nat
  first : Int
  count : Int
  turn : Int
  oldest : Int
  S : Nat
  So : Nat
  cS : Nat
  Al : Option Addr
  cl : Nat
  ls : List Int
  shs : List ShM
structure LogM (w : World) (X : LgM) : Prop where
  blk : Blk w X.L 65 (logC X.d X.first X.count X.turn X.oldest (some ⟨X.S, X.So, none⟩) X.shs.length X.cS X.Al X.ls.length X.cl)
  row : RowO w 68 1 X.S X.So X.shs.length X.cS (X.shs.map ShM.ptr)
  lsn : OwnO w 2 1 X.Al X.ls.length X.cl (i64s X.ls)
  sht : ∀ s ∈ X.shs, s.Is w
  gs : (X.shs.map ShM.g).Nodup
  gbs : (X.shs.map ShM.gb).Nodup
  cB : 1 ≤ X.count ∧ X.count ≤ 10000
  kB : X.shs.length ≤ 10000
  nB : ∀ s ∈ X.shs, 0 ≤ s.num ∧ s.num ≤ 9007199254740000
  hB : ∀ s ∈ X.shs, s.body.length ≤ 496
  lB : X.ls.length ≤ 10000000
/-- A log's own blocks. -/
def LgM.own (X : LgM) (i : Nat) : Prop := i = X.L ∨ i = X.S ∨ (∃ o, X.Al = some ⟨i, o, none⟩) ∨ ∃ s ∈ X.shs, i = s.g ∨ i = s.gb
theorem LogM.far {W : Nat → Prop} {w w' : World} {X : LgM} (h : LogM w X) (ht : Turned W w w') (hW : ∀ i, X.own i → ¬ W i) : LogM w' X :=
  ⟨h.blk.turned ht (hW _ (.inl rfl)), h.row.turned ht (hW _ (.inr (.inl rfl))), h.lsn.turned ht (fun g o e => hW _ (.inr (.inr (.inl ⟨o, e⟩)))), fun s hs => (h.sht s hs).turned ht (hW _ (.inr (.inr (.inr ⟨s, hs, .inl rfl⟩)))) (hW _ (.inr (.inr (.inr ⟨s, hs, .inr rfl⟩)))), h.gs, h.gbs, h.cB, h.kB, h.nB, h.hB, h.lB⟩
theorem LogM.fresh {w w' : World} {X : LgM} (h : LogM w X) (ht : Turned (fun _ => False) w w') : LogM w' X := h.far ht (fun _ _ e => e)
theorem LogM.lt {w : World} {X : LgM} (h : LogM w X) {i : Nat} (hi : X.own i) : i < w.heap.size := by
  rcases hi with rfl | rfl | ⟨o, e⟩ | ⟨s, hs, rfl | rfl⟩
  · exact h.blk.lt
  · exact h.row.lt
  · exact h.lsn.lt e
  · exact (h.sht s hs).blk.lt
  · exact (h.sht s hs).bod.lt
/-- From one log to the next: only its own blocks turn, and its new ones are new. -/
structure OwnStep (X X' : LgM) (w w' : World) : Prop where
  turned : Turned X.own w w'
  own : ∀ i, X'.own i → X.own i ∨ w.heap.size ≤ i
theorem OwnStep.trans {X Y Z : LgM} {w w' w'' : World} (h1 : OwnStep X Y w w') (h2 : OwnStep Y Z w' w'') : OwnStep X Z w w'' :=
  ⟨h1.turned.trans h2.turned (fun _ e => e) (fun i e => (h1.own i e).elim .inl .inr), fun i e => (h2.own i e).elim (h1.own i) (fun e => .inr (Nat.le_trans h1.turned.size e))⟩
theorem OwnStep.refl {X : LgM} {w w' : World} (ht : Turned (fun _ => False) w w') : OwnStep X X w w' := ⟨ht.mono (fun _ e => e.elim), fun _ e => .inl e⟩
/-- The log's own blocks and new ones, but for these sheets. -/
def ownF (X : LgM) (w : World) (l : List ShM) (i : Nat) : Prop := (X.own i ∨ w.heap.size ≤ i) ∧ ∀ t ∈ l, i ≠ t.g ∧ i ≠ t.gb
theorem turned_own {X : LgM} {w w' : World} {l : List ShM} (ht : Turned (ownF X w l) w w') : Turned X.own w w' := (Turned.refl X.own w).trans ht (fun _ e => e) (fun i e => e.1)
def viewS (X : LgM) (init : List ShM) (s : ShM) : LhS := ⟨X.L, X.d, X.S, X.So, s.g, s.gb, X.first, X.count, X.turn, X.oldest, init.length, X.cS, init.map ShM.ptr, X.Al, X.cl, X.ls, s.num, s.tn, s.bef, s.used, s.safe, s.body, s.c, s.lost⟩
section
variable {w : World} {X : LgM}
theorem LogM.gLS (h : LogM w X) {s : ShM} (hs : s ∈ X.shs) : s.g ≠ X.L ∧ s.g ≠ X.S ∧ s.gb ≠ X.L ∧ s.gb ≠ X.S ∧ (∀ a o, X.Al = some ⟨a, o, none⟩ → a ≠ s.g ∧ a ≠ s.gb) ∧ ∀ t ∈ X.shs, s.g ≠ t.gb := by
  have hI := h.sht s hs
  obtain ⟨cb, hb, _⟩ := hI.bod.row
  obtain ⟨cr, hr, _⟩ := h.row.row
  refine ⟨fun e => ?_, fun e => ?_, fun e => ?_, fun e => ?_, fun a o ha => ?_, fun t ht e => ?_⟩
  · have b := hI.blk; rw [e] at b; exact absurd (Blk.inj b h.blk).2 (by decide)
  · have b := hI.blk; rw [e] at b; exact absurd (Blk.inj b hr).2 (by decide)
  · rw [e] at hb; exact absurd (Blk.inj hb h.blk).2 (by decide)
  · rw [e] at hb; exact absurd (Blk.inj hb hr).2 (by decide)
  · exact ⟨h.lsn.blk hI.blk (by decide) ha, h.lsn.blk hb (by decide) ha⟩
  · obtain ⟨cb2, hb2, _⟩ := (h.sht t ht).bod.row
    rw [← e] at hb2
    exact absurd (Blk.inj hI.blk hb2).2 (by decide)
theorem LogM.gLA (h : LogM w X) : X.L ≠ X.S ∧ ∀ a o, X.Al = some ⟨a, o, none⟩ → a ≠ X.L ∧ a ≠ X.S := by
  obtain ⟨cr, hr, _⟩ := h.row.row
  refine ⟨fun e => ?_, fun a o ha => ⟨h.lsn.blk h.blk (by decide) ha, h.lsn.blk hr (by decide) ha⟩⟩
  have b := h.blk; rw [e] at b; exact absurd (Blk.inj b hr).2 (by decide)
theorem LogM.view (h : LogM w X) (w0 : World) {init l : List ShM} {s : ShM} (e : X.shs = init ++ [s]) (hl : ∀ t ∈ l, t ∈ X.shs) : LhW w (ownF X w0 l) (viewS X init s) := by
  have hls : X.shs.length = init.length + 1 := by rw [e, List.length_append]; rfl
  have hms : s ∈ X.shs := by rw [e]; simp
  have hmp : X.shs.map ShM.ptr = init.map ShM.ptr ++ [s.ptr] := by rw [e, List.map_append]; rfl
  have hk := h.kB
  refine ⟨by have := h.blk; rw [hls] at this; exact this, by have := h.row; rw [hls, hmp] at this; exact this, by simp [viewS], h.lsn, h.sht s hms, ⟨.inl (.inl rfl), fun t ht => ?_⟩, ⟨.inl (.inr (.inl rfl)), fun t ht => ?_⟩, fun a o ha => ⟨.inl (.inr (.inr (.inl ⟨o, ha⟩))), fun t ht => ?_⟩, h.cB, by show init.length < 10000; omega, h.nB s hms, h.hB s hms, h.lB⟩
  · have := h.gLS (hl t ht); exact ⟨this.1.symm, this.2.2.1.symm⟩
  · have := h.gLS (hl t ht); exact ⟨this.2.1.symm, this.2.2.2.1.symm⟩
  · have := (h.gLS (hl t ht)).2.2.2.2.1 a o ha; exact this
theorem LogM.lastF (h : LogM w X) (w0 : World) {init : List ShM} {s : ShM} (e : X.shs = init ++ [s]) : ownF X w0 init s.g ∧ ownF X w0 init s.gb := by
  have hms : s ∈ X.shs := by rw [e]; simp
  have hg := h.gs
  have hgb := h.gbs
  rw [e, List.map_append, List.nodup_append] at hg hgb
  refine ⟨⟨.inl (.inr (.inr (.inr ⟨s, hms, .inl rfl⟩))), fun t ht => ⟨?_, ?_⟩⟩, ⟨.inl (.inr (.inr (.inr ⟨s, hms, .inr rfl⟩))), fun t ht => ⟨?_, ?_⟩⟩⟩
  · exact fun e2 => hg.2.2 t.g (List.mem_map_of_mem ht) s.g (by simp) e2.symm
  · exact (h.gLS hms).2.2.2.2.2 t (by rw [e]; exact List.mem_append_left _ ht)
  · exact fun e2 => (h.gLS (s := t) (by rw [e]; exact List.mem_append_left _ ht)).2.2.2.2.2 s hms e2.symm
  · exact fun e2 => hgb.2.2 t.gb (List.mem_map_of_mem ht) s.gb (by simp) e2.symm
end
def LhS.back (Y : LhS) (l : List ShM) : LgM := ⟨Y.L, Y.d, Y.first, Y.count, Y.turn, Y.oldest, Y.S, Y.So, Y.cS, Y.Al, Y.cl, Y.ls, l ++ [⟨Y.g, Y.gb, Y.c, Y.num, Y.tn, Y.bef, Y.used, Y.body, Y.safe, Y.lost⟩]⟩
/-- Back: what the walks leave of a log known by its last sheet, and the others, which stand. -/
theorem LogM.back {w w' : World} {X : LgM} {l : List ShM} {Y : LhS} (h : LogM w X) (hl : ∀ t ∈ l, t ∈ X.shs) (hgl : (l.map ShM.g).Nodup) (hgbl : (l.map ShM.gb).Nodup) (hw : LhW w' (ownF X w l) Y) (ht : Turned (ownF X w l) w w') (hk : Y.k = l.length) (hp : Y.ps = l.map ShM.ptr) (hg : ownF X w l Y.g) (hgb : ownF X w l Y.gb) :
    LogM w' (Y.back l) ∧ OwnStep X (Y.back l) w w' := by
  unfold LhS.back
  have hlen : (l ++ [(⟨Y.g, Y.gb, Y.c, Y.num, Y.tn, Y.bef, Y.used, Y.body, Y.safe, Y.lost⟩ : ShM)]).length = Y.k + 1 := by rw [List.length_append, hk]; rfl
  have hmem : ∀ {P : ShM → Prop}, (∀ t ∈ l, P t) → P ⟨Y.g, Y.gb, Y.c, Y.num, Y.tn, Y.bef, Y.used, Y.body, Y.safe, Y.lost⟩ → ∀ t ∈ l ++ [(⟨Y.g, Y.gb, Y.c, Y.num, Y.tn, Y.bef, Y.used, Y.body, Y.safe, Y.lost⟩ : ShM)], P t := fun h1 h2 t ht => by
    rcases List.mem_append.1 ht with ht | ht
    · exact h1 t ht
    · rw [List.mem_singleton.1 ht]; exact h2
  have hkB := hw.kB
  refine ⟨⟨?_, ?_, hw.lsn, hmem (fun t ht2 => ?_) hw.sht, ?_, ?_, hw.cB, ?_, hmem (fun t ht2 => h.nB t (hl t ht2)) hw.nB, hmem (fun t ht2 => h.hB t (hl t ht2)) hw.hB, hw.lB⟩, turned_own ht, fun i hi => ?_⟩
  · show Blk w' Y.L _ (logC Y.d Y.first Y.count Y.turn Y.oldest (some ⟨Y.S, Y.So, none⟩) (l ++ [_]).length Y.cS Y.Al Y.ls.length Y.cl)
    rw [hlen]; exact hw.blk
  · show RowO w' _ 1 Y.S Y.So (l ++ [_]).length Y.cS ((l ++ [_]).map ShM.ptr)
    rw [hlen, List.map_append, ← hp]; exact hw.shs
  · exact (h.sht t (hl t ht2)).turned ht (fun e => (e.2 t ht2).1 rfl) (fun e => (e.2 t ht2).2 rfl)
  · show ((l ++ [_]).map ShM.g).Nodup
    rw [List.map_append, List.nodup_append]
    refine ⟨hgl, by simp, fun a ha b hb e => ?_⟩
    obtain ⟨t, ht2, rfl⟩ := List.mem_map.1 ha
    simp at hb
    exact (hg.2 t ht2).1 (hb ▸ e.symm)
  · show ((l ++ [_]).map ShM.gb).Nodup
    rw [List.map_append, List.nodup_append]
    refine ⟨hgbl, by simp, fun a ha b hb e => ?_⟩
    obtain ⟨t, ht2, rfl⟩ := List.mem_map.1 ha
    simp at hb
    exact (hgb.2 t ht2).2 (hb ▸ e.symm)
  · show (l ++ [_]).length ≤ 10000
    rw [hlen]; omega
  · rcases hi with rfl | rfl | ⟨o, e⟩ | ⟨s, hs, hi⟩
    · exact hw.bL.1
    · exact hw.bS.1
    · exact (hw.bl i o e).1
    · rcases List.mem_append.1 hs with hs | hs
      · exact .inl (.inr (.inr (.inr ⟨s, hl s hs, hi⟩)))
      · rw [List.mem_singleton.1 hs] at hi
        rcases hi with rfl | rfl
        · exact hg.1
        · exact hgb.1
/-- What Append leaves: the bytes on the last sheet, or on a new one, or nothing. -/
def MFit (X : LgM) (init : List ShM) (s : ShM) (pr : List Int) (w : World) (e : Ending) (w' : World) : Prop := ∃ gb' c' Al' cl' X', X' = { X with shs := init ++ [{ s with gb := gb', c := c', body := s.body ++ pr }], Al := Al', cl := cl', ls := X.ls ++ [s.num * 512 + (s.body.length : Int) + 1] } ∧ e = .returned (.tuple #[.int .i64 (s.num * 512 + (s.body.length : Int) + 1), .int .i64 0]) ∧ LogM w' X' ∧ OwnStep X X' w w'
def MNew (X : LgM) (s : ShM) (pr : List Int) (w : World) (e : Ending) (w' : World) : Prop := ∃ S' So' g' gb' c' cS' Al' cl' X', X' = { X with S := S', So := So', cS := cS', shs := X.shs ++ [⟨g', gb', c', s.num + 1, 0, s.body.length, 0, pr, 0, false⟩], Al := Al', cl := cl', ls := X.ls ++ [(s.num + 1) * 512 + 1] } ∧ e = .returned (.tuple #[.int .i64 ((s.num + 1) * 512 + 1), .int .i64 0]) ∧ LogM w' X' ∧ OwnStep X X' w w'
section
variable {X : LgM} {init : List ShM} {s : ShM} {R : Rec} {S : RecS} {w : World}
theorem LogM.newF (h : LogM w X) {l : List ShM} (hin : ∀ t ∈ l, t ∈ X.shs) : ∀ i, w.heap.size ≤ i → ownF X w l i := fun i hi => ⟨.inr hi, fun t ht => ⟨by have := (h.sht t (hin t ht)).blk.lt; omega, by have := (h.sht t (hin t ht)).bod.lt; omega⟩⟩
theorem mapp_fit (h : LogM w X) (es : X.shs = init ++ [s]) (hR : rightR R = true) (hI : RecIs w R S) (hlen : 3 ≤ (putR R).length ∧ (putR R).length ≤ 496) (hll : X.ls.length < 10000000) (hf : s.body.length + (putR R).length ≤ 496) :
    Calls Tryd.prog 8 #[.pointer (some ⟨X.L, 0, none⟩), .agg (recC R S)] w (MFit X init s (putR R) w) := by
  have hin : ∀ t ∈ init, t ∈ X.shs := fun t ht => by rw [es]; exact List.mem_append_left _ ht
  have hg := h.gs
  have hgb := h.gbs
  rw [es, List.map_append, List.nodup_append] at hg hgb
  refine (happ_fit (ownF X w init) (viewS X init s) R S w (h.view w es hin) (h.lastF w es) hR hI (h.newF hin) hlen hll hf).mono ?_
  rintro e w' ⟨gb', c', Al', cl', hgF, rfl, hw, ht⟩
  have hb := h.back (l := init) hin hg.1 hgb.1 hw ht rfl rfl (h.lastF w es).1 hgF
  exact ⟨gb', c', Al', cl', _, rfl, rfl, hb.1, hb.2⟩
theorem mapp_new (h : LogM w X) (es : X.shs = init ++ [s]) (hR : rightR R = true) (hI : RecIs w R S) (hlen : 3 ≤ (putR R).length ∧ (putR R).length ≤ 496) (hll : X.ls.length < 10000000) (hf : 496 < s.body.length + (putR R).length) (hmo : X.count - 1 - (X.shs.length : Int) ≠ 0) (hkk : X.shs.length < 10000) (hnn : s.num + 1 ≤ 9007199254740000) :
    Calls Tryd.prog 8 #[.pointer (some ⟨X.L, 0, none⟩), .agg (recC R S)] w (MNew X s (putR R) w) := by
  have hls : X.shs.length = init.length + 1 := by rw [es, List.length_append]; rfl
  refine (happ_new (ownF X w X.shs) (viewS X init s) R S w (h.view w es (fun t ht => ht)) hR hI (h.newF (fun t ht => ht)) hlen hll hf (by rw [hls] at hmo; exact hmo) (by show init.length + 1 < 10000; omega) hnn).mono ?_
  rintro e w' ⟨S', So', g', gb', c', cS', Al', cl', hgF, hgbF, rfl, hw, ht⟩
  have hb := h.back (l := X.shs) (fun t ht => ht) h.gs h.gbs hw ht (by rw [hls]; rfl) (by rw [es, List.map_append]; rfl) hgF hgbF
  exact ⟨S', So', g', gb', c', cS', Al', cl', _, rfl, rfl, hb.1, hb.2⟩
theorem mapp_full (h : LogM w X) (es : X.shs = init ++ [s]) (hR : rightR R = true) (hI : RecIs w R S) (hlen : 3 ≤ (putR R).length ∧ (putR R).length ≤ 496) (hll : X.ls.length < 10000000) (hf : 496 < s.body.length + (putR R).length) (hmo : X.count - 1 - (X.shs.length : Int) = 0) :
    Calls Tryd.prog 8 #[.pointer (some ⟨X.L, 0, none⟩), .agg (recC R S)] w (RetNew (.tuple #[.int .i64 0, .int .i64 5]) w) := by
  have hls : X.shs.length = init.length + 1 := by rw [es, List.length_append]; rfl
  exact happ_full (ownF X w X.shs) (viewS X init s) R S w (h.view w es (fun t ht => ht)) hR hI (h.newF (fun t ht => ht)) hlen hll hf (by rw [hls] at hmo; exact hmo)
end
end Go.Proofs.YtfheikmjjijdpaaDoor

