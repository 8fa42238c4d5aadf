/-
 The program's reader takes a command. Conditions: the library's variables, ask.kinds and lines.verbs hold what their initialisers lay; at most 1000000 words.
-/
import Derived.Test.YtglojnmcbochaaaGreatDoorURdG
import Derived.Test.YtglojnmcbochaaaGreatDoorUAskS
namespace Go.Proofs.YtglojnmcbochaaaGreatDoor
open Go.RowKit Go.Maps
set_option linter.unusedVariables false
set_option linter.unusedSimpArgs false

def verbW (k : Nat) : Value := strV (verbT.getD k [])
def verbG (k : Nat) : Value := .string (fBA (verbF.getD k []))
def VerbsOk (w : World) : Prop := ∀ i, i < 16 → w.cell? ⟨1, 2 * i, none⟩ = some (verbW i) ∧ w.cell? ⟨1, 2 * i + 1, none⟩ = some (verbG i)
theorem VerbsOk.fresh {w w' : World} (h : VerbsOk w) (ht : Turned (fun _ => False) w w') : VerbsOk w' := fun i hi => ⟨cell_turned ht (h i hi).1 (fun e => e), cell_turned ht (h i hi).2 (fun e => e)⟩
def verbC : List Value := (List.range 16).flatMap fun k => [verbW k, verbG k]
theorem verbC_at (k : Nat) (hk : k < 16) : verbC[2 * k]? = some (verbW k) ∧ verbC[2 * k + 1]? = some (verbG k) := by
 rcases (show k = 0 ∨ k = 1 ∨ k = 2 ∨ k = 3 ∨ k = 4 ∨ k = 5 ∨ k = 6 ∨ k = 7 ∨ k = 8 ∨ k = 9 ∨ k = 10 ∨ k = 11 ∨ k = 12 ∨ k = 13 ∨ k = 14 ∨ k = 15 by omega) with rfl | rfl | rfl | rfl | rfl | rfl | rfl | rfl | rfl | rfl | rfl | rfl | rfl | rfl | rfl | rfl <;> exact ⟨rfl, rfl⟩
theorem verbC_len : verbC.length = 32 := rfl
theorem VerbsOk.range {w : World} (h : VerbsOk w) : w.rangeAt 1 0 verbC := by
 intro j v hv
 have hj : j < 32 := by
  have := (List.getElem?_eq_some_iff.1 hv).1
  rw [verbC_len] at this
  exact this
 obtain ⟨k, rfl | rfl⟩ : ∃ k, j = 2 * k ∨ j = 2 * k + 1 := ⟨j / 2, by omega⟩
 ·rw [(verbC_at k (by omega)).1] at hv
  injection hv with hv
  subst hv
  rw [Nat.zero_add]
  exact (h k (by omega)).1
 ·rw [(verbC_at k (by omega)).2] at hv
  injection hv with hv
  subst hv
  rw [Nat.zero_add]
  exact (h k (by omega)).2
def verbsV : Value := .agg verbC.toArray
theorem run_index_verb (k : Nat) (hk : k < 16) (w : World) : (Instr.index 136 verbsV (.int .i64 k)).run Tryz.prog w = .ok (.agg #[verbW k, verbG k]) w := by
 rcases (show k = 0 ∨ k = 1 ∨ k = 2 ∨ k = 3 ∨ k = 4 ∨ k = 5 ∨ k = 6 ∨ k = 7 ∨ k = 8 ∨ k = 9 ∨ k = 10 ∨ k = 11 ∨ k = 12 ∨ k = 13 ∨ k = 14 ∨ k = 15 by omega) with rfl | rfl | rfl | rfl | rfl | rfl | rfl | rfl | rfl | rfl | rfl | rfl | rfl | rfl | rfl | rfl <;> kernel_rfl
structure BaseK (w0 w : World) (g : Nat) : Prop where
 b : Base w0 w g
 kinds : KindsOk w0
 verbs : VerbsOk w0
theorem BaseK.next {w0 w w' : World} {g : Nat} (h : BaseK w0 w g) (ht : Turned (· = g) w w') : BaseK w0 w' g := ⟨h.b.next ht, h.kinds, h.verbs⟩
theorem BaseK.verbsOk {w0 w : World} {g : Nat} (h : BaseK w0 w g) : VerbsOk w := h.verbs.fresh h.b.t
def AskPost (B g : Nat) (ws : WS) (bad : Bool) (w : World) (e : Ending) (w' : World) : Prop :=
 ∃ S, e = .returned (.agg (askC (askP ws bad).1 S)) ∧ RdB w' B g (askP ws bad).2.1 (askP ws bad).2.2 ∧ AskOwn w' w.heap.size (askP ws bad).1 S ∧ (askP ws bad).1.Ok ∧ Turned (· = g) w w'
def NoVerb (w : List UInt8) (k : Nat) : Prop := ∀ j, 1 ≤ j → j < k → verbT.getD j [] ≠ w
theorem noVerb_kind {w : List UInt8} (h : NoVerb w 16) : fieldsK (kindW w) = none := by
 have hh : ∀ j, 1 ≤ j → j < 16 → w ≠ verbT.getD j [] := fun j h1 h2 e => h j h1 h2 e.symm
 have e : kindW w = 0 := by
  unfold kindW
  rw [if_neg (show w ≠ [105, 116, 101, 109] from hh 1 (by decide) (by decide)), if_neg (show w ≠ [107, 105, 116] from hh 2 (by decide) (by decide)), if_neg (show w ≠ [111, 116, 104, 101, 114, 115] from hh 3 (by decide) (by decide)), if_neg (show w ≠ [114, 101, 99, 101, 105, 118, 101] from hh 4 (by decide) (by decide)), if_neg (show w ≠ [111, 114, 100, 101, 114] from hh 5 (by decide) (by decide)), if_neg (show w ≠ [100, 117, 101] from hh 6 (by decide) (by decide)), if_neg (show w ≠ [100, 114, 111, 112] from hh 7 (by decide) (by decide)), if_neg (show w ≠ [97, 114, 114, 105, 118, 101] from hh 8 (by decide) (by decide)), if_neg (show w ≠ [110, 101, 101, 100] from hh 9 (by decide) (by decide)), if_neg (show w ≠ [99, 97, 110, 99, 101, 108] from hh 10 (by decide) (by decide)), if_neg (show w ≠ [115, 104, 105, 112] from hh 11 (by decide) (by decide)), if_neg (show w ≠ [116, 105, 99, 107] from hh 12 (by decide) (by decide)), if_neg (show w ≠ [119, 104, 101, 110] from hh 13 (by decide) (by decide)), if_neg (show w ≠ [108, 105, 110, 101] from hh 14 (by decide) (by decide)), if_neg (show w ≠ [115, 116, 111, 99, 107] from hh 15 (by decide) (by decide))]
 rw [e]
 rfl
theorem verb_kind {k : Nat} (h1 : 1 ≤ k) (h2 : k < 16) : kindW (verbT.getD k []) = k ∧ fieldsK k = some (verbF.getD k []) ∧ verbF.getD k [] ∈ kindsL := by
 rcases (show k = 1 ∨ k = 2 ∨ k = 3 ∨ k = 4 ∨ k = 5 ∨ k = 6 ∨ k = 7 ∨ k = 8 ∨ k = 9 ∨ k = 10 ∨ k = 11 ∨ k = 12 ∨ k = 13 ∨ k = 14 ∨ k = 15 by omega) with rfl | rfl | rfl | rfl | rfl | rfl | rfl | rfl | rfl | rfl | rfl | rfl | rfl | rfl | rfl <;> exact ⟨by decide, by decide, by decide⟩
theorem AskV.Ok.zero : AskV.zero.Ok := ⟨by unfold isByte; decide, by unfold I64; decide, by unfold strOk; decide, by unfold I64; decide, by unfold I64; decide, by unfold I64; decide, by unfold I64; decide, by unfold I64; decide, by unfold I64; decide, by simp [AskV.zero], by simp [AskV.zero]⟩
theorem RdB.blk {w : World} {B g : Nat} {ws : WS} {bad : Bool} (h : RdB w B g ws bad) : ∃ cs, Blk w g 69 cs := by
 obtain ⟨s, h1, _⟩ := h
 exact ⟨_, h1⟩
def KRel (w0 : World) (B g bx bi br : Nat) (f : List Nat) (x0 : AskV × WS × Bool) (w wr : World) : Prop :=
 ∃ (pos : Nat) (S : AskS), pos ≤ f.length ∧ FldW w0 B g bx ((f.take pos).foldl fieldP x0).1 S ((f.take pos).foldl fieldP x0).2.1 ((f.take pos).foldl fieldP x0).2.2 wr ∧ wr.heap[bi]? = some (.stringIter (fBA f) pos) ∧ Blk wr br 28 #[.int .u8 0, .int .i64 0, .string ⟨#[]⟩, .int .i64 0, .int .i64 0, .int .i64 0, .int .i64 0, .int .i64 0, .int .i64 0, .slice none 0 0, .slice none 0 0] ∧ Turned (· = g) w wr ∧ FldM AskS.nil S w
theorem FldW.iter {w0 W : World} {B g bx bi pos : Nat} {x : AskV} {S : AskS} {ws : WS} {bad : Bool} {s : ByteArray} (h : FldW w0 B g bx x S ws bad W) (hit : W.heap[bi]? = some (.stringIter s pos)) (hb : B ≤ bi) (p : Nat) : FldW w0 B g bx x S ws bad (W.iterAt bi s p) ∧ Turned (· = bi) W (W.iterAt bi s p) ∧ (W.iterAt bi s p).heap[bi]? = some (.stringIter s p) := by
 have tI : Turned (· = bi) W (W.iterAt bi s p) := ⟨rfl, rfl, rfl, by simp [World.iterAt], fun i hi hn => by
  simp only [World.iterAt]
  rw [Array.getElem?_setIfInBounds_ne (fun e => hn e.symm)]⟩
 have b0 : w0.heap.size ≤ B := by have := h.rd.gB; have := h.base.g; omega
 refine ⟨⟨⟨h.base.vars, h.base.t.trans tI (fun _ e => e) (fun j e => .inr (by subst e; omega)), h.base.g⟩, h.rd.turned tI (fun j e => e ▸ hb), h.aa.turned tI (blk_it h.aa hit), ⟨h.own.parts.turned tI (fun i e e2 => own_it h.own.parts hit (by rw [e, e2])), h.own.others.turned tI (fun i e e2 => own_it h.own.others hit (by rw [e, e2])), h.own.pB, h.own.oB⟩, h.bB, h.ok, h.pN, h.oN, Nat.le_trans h.bz tI.size⟩, tI, Lib.iterAt_heap _ _ _ _ _ hit⟩
set_option maxRecDepth 100000 in
set_option maxHeartbeats 4000000 in
theorem rd_ask_any (w0 : World) (B g : Nat) (ws : WS) (bad : Bool) (w : World) (h : RdB w B g ws bad) (hB : BaseK w0 w g) (hbz : B ≤ w.heap.size) (hN : ws.length ≤ 1000000) : Calls Tryz.prog 65 #[.pointer (some ⟨g, 0, none⟩)] w (AskPost B g ws bad w) := by
 have hw := hZ (fun (w1 : World) (h1 : RdB w1 B g ws bad) => word_any B g ws bad w1 h1)
 have h' := hZ h
 have hB' := hZ hB
 have hgB := h.gB
 clear h hB
 go_enter Tryz.func65, Tryz.ntmps65
 go_wp2_with fail
 have ta := hZ ((Turned.refl (fun _ => False) w).alloc (.cells #[.int .u8 0, .int .i64 0, .string ⟨#[]⟩, .int .i64 0, .int .i64 0, .int .i64 0, .int .i64 0, .int .i64 0, .int .i64 0, .slice none 0 0, .slice none 0 0] 28))
 have xr := hZ (Blk.new w 28 #[.int .u8 0, .int .i64 0, .string ⟨#[]⟩, .int .i64 0, .int .i64 0, .int .i64 0, .int .i64 0, .int .i64 0, .int .i64 0, .slice none 0 0, .slice none 0 0])
 have hbr : B ≤ w.heap.size := hbz
 obtain ⟨wa, hwa⟩ : ∃ wa, wa = w.alloc (.cells #[.int .u8 0, .int .i64 0, .string ⟨#[]⟩, .int .i64 0, .int .i64 0, .int .i64 0, .int .i64 0, .int .i64 0, .int .i64 0, .slice none 0 0, .slice none 0 0] 28) := ⟨_, rfl⟩
 have hza : wa.heap.size = w.heap.size + 1 := by rw [hwa]; simp
 rw [← hwa] at ta xr ⊢
 clear hwa
 obtain ⟨br, hbr0⟩ : ∃ br, w.heap.size = br := ⟨_, rfl⟩
 rw [hbr0] at xr hza hbr ⊢
 refine (hw.out _ (h'.out.fresh ta.out)).mono ?_
 rintro e w2 ⟨rfl, R2, t2⟩
 have hz2 : br < w2.heap.size := by have := t2.size; omega
 have B2 := hZ ((hB'.out.next (turned_same ta.out)).next t2)
 have X2 := hZ (xr.out.turned t2 (by omega))
 have T2 := hZ ((turned_same (g := g) ta.out).eq_ t2)
 have hlen := hZ (show lenOk (ws.headD []) from h'.out.head)
 have R2 := hZ R2
 have htl := tail_le ws
 have hask : askP ws bad = askPF (fieldsK (kindW (ws.headD []))) ws bad := rfl
 have hask := hZ hask
 clear ta xr hw t2 hza
 unfold AskPost
 generalize hwd : ws.headD [] = wd at *
 have hvr := B2.out.verbsOk.range
 go_wp2_with (refine wpList_load_mid rfl 136 _ rfl 1 0 rfl verbC _ hvr Tryz.underlying136 rfl (by kernel_rfl) ?_)
 have hiv : ∀ (k : Nat) (hk : k < 16) (wr : World), (Instr.index 136 (.agg verbC.toArray) (.int .i64 k)).run Tryz.prog wr = .ok (.agg #[verbW k, verbG k]) wr := run_index_verb
 generalize verbC.toArray = vbs at *
 clear hvr
 go_loopw [12] (fun i wr => ∃ k : Nat, k ≤ 16 ∧ i = .int .i64 k ∧ NoVerb wd k ∧ Turned (fun _ => False) w2 wr) (fun i _ => 16 - (intOf i).toNat)
 case atStart => exact ⟨0, by decide, rfl, fun j h1 h2 => by omega, Turned.refl _ _⟩
 case round =>
  obtain ⟨k, hk16, rfl, hno, ht⟩ := hrel
  have hno := hZ hno
  have ht := hZ ht
  by_cases hk : k < 16
  ·have hidx := hiv k hk
   have FI := hZ (fun (hn : k = 0 ∨ verbT.getD k [] ≠ wd) (w3 : World) (e : w3 = wr.alloc (.cells #[verbW k, verbG k] 135)) => show ∃ k' : Nat, k' ≤ 16 ∧ Value.int .i64 ((k : Int) + 1) = .int .i64 k' ∧ NoVerb wd k' ∧ Turned (fun _ => False) w2 w3 from ⟨k + 1, hk, rfl, fun j h1 h2 => by
    rcases Nat.lt_or_ge j k with h3 | h3
    ·exact hno.out j h1 h3
    ·obtain rfl : j = k := by omega
     rcases hn with hn | hn
     ·omega
     ·exact hn, by subst e; exact ht.out.alloc _⟩)
   by_cases hk0 : k = 0
   ·subst hk0
    have hidx : ∀ wr, (Instr.index 136 (.agg vbs) (.int .i64 0)).run Tryz.prog wr = .ok (.agg #[verbW 0, verbG 0]) wr := hiv 0 (by decide)
    have hwv : verbW 0 = .string ⟨#[]⟩ := rfl
    have hwg : verbG 0 = .string ⟨#[]⟩ := rfl
    rw [hwv, hwg] at hidx
    clear hwv hwg
    go_wp2_with fail
    go_roundw
    case rel => exact FI.out (.inl rfl) _ rfl
    case measure => simp [intOf] <;> omega
   ·have hki : ((k : Int) == 0) = false := by simp; omega
    have hvw : verbW k = .string ⟨(verbT.getD k []).toArray⟩ := rfl
    have hvg : verbG k = .string (fBA (verbF.getD k [])) := rfl
    obtain ⟨hk1, hk2, hk3⟩ := verb_kind (show 1 ≤ k by omega) hk
    generalize verbT.getD k [] = vt at *
    generalize verbF.getD k [] = f at *
    rw [hvw, hvg] at hidx
    by_cases he : vt = wd
    ·subst he
     have hcmp : (vt == vt) = true := by simp
     go_wp2_with fail
     have tv := hZ ((Turned.refl (fun _ => False) wr).alloc (.cells #[.string ⟨vt.toArray⟩, .string (fBA f)] 135))
     have XV := hZ (Blk.new wr 135 #[.string ⟨vt.toArray⟩, .string (fBA f)])
     obtain ⟨Wv, hWv⟩ : ∃ Wv, Wv = wr.alloc (.cells #[.string ⟨vt.toArray⟩, .string (fBA f)] 135) := ⟨_, rfl⟩
     have hzv : Wv.heap.size = wr.heap.size + 1 := by rw [hWv]; simp
     rw [← hWv] at tv XV ⊢
     clear hWv
     have hz2v := ht.out.size
     obtain ⟨bv, hbv⟩ : ∃ bv, wr.heap.size = bv := ⟨_, rfl⟩
     rw [hbv] at XV hzv hz2v ⊢
     have tw := hZ (ht.out.and_ tv.out)
     have RV := hZ (R2.out.fresh tw.out)
     have BV := hZ (B2.out.next (turned_same tw.out))
     have XRv := hZ (X2.out.turned tw.out (fun e => e))
     have TV := hZ (T2.out.eq_ (turned_same tw.out))
     clear tv tw ht R2 B2 X2 T2 hidx hiv FI hcmp hbv hki
     have hask := hZ (show askP ws bad = askEnd (f.foldl fieldP (⟨k, numV ws.tail, [], 0, 0, 0, 0, 0, 0, [], []⟩, ws.tail.tail, nullB ws.tail (bad || ws.isEmpty))) from by
      rw [hask.out, hk1, hk2]
      show askEnd (f.foldl fieldP ({ AskV.zero with kind := kindW (ws.headD []), request := numV ws.tail }, _, _)) = _
      rw [hwd, hk1]
      rfl)
     have hv64 := numV_64 ws.tail
     have htl2 := tail_le ws.tail
     have hn := number_b B g ws.tail (bad || ws.isEmpty) w0 Wv RV.out BV.out.b
     unfold numbPost at hn
     generalize nullB ws.tail (bad || ws.isEmpty) = b3 at *
     generalize numV ws.tail = rq at *
     generalize ws.tail.tail = rs3 at *
     refine hn.mono ?_
     rintro e W3 ⟨rfl, R3, t3⟩
     have hz3 := t3.size
     have XV3 := hZ (XV.out.turned t3 (by omega))
     have XR3 := hZ (XRv.out.turned t3 (by omega))
     have T3 := hZ (TV.out.eq_ t3)
     have B3 := hZ (BV.out.next t3)
     have R3 := hZ R3
     clear hn t3 XV XRv TV BV RV
     have hvw1 : (W3.alloc (.cells #[.int .u8 (k : Int), .int .i64 rq, .string ⟨#[]⟩, .int .i64 0, .int .i64 0, .int .i64 0, .int .i64 0, .int .i64 0, .int .i64 0, .slice none 0 0, .slice none 0 0] 28)).cell? ⟨bv, 1, none⟩ = some (.string (fBA f)) := (XV3.out.alloc _).cell 1
     have tX := hZ ((Turned.refl (fun _ => False) W3).alloc (.cells #[.int .u8 (k : Int), .int .i64 rq, .string ⟨#[]⟩, .int .i64 0, .int .i64 0, .int .i64 0, .int .i64 0, .int .i64 0, .int .i64 0, .slice none 0 0, .slice none 0 0] 28))
     have XX := hZ (Blk.new W3 28 #[.int .u8 (k : Int), .int .i64 rq, .string ⟨#[]⟩, .int .i64 0, .int .i64 0, .int .i64 0, .int .i64 0, .int .i64 0, .int .i64 0, .slice none 0 0, .slice none 0 0])
     go_wp2_with fail
     obtain ⟨W4, hW4⟩ : ∃ W4, W4 = W3.alloc (.cells #[.int .u8 (k : Int), .int .i64 rq, .string ⟨#[]⟩, .int .i64 0, .int .i64 0, .int .i64 0, .int .i64 0, .int .i64 0, .int .i64 0, .slice none 0 0, .slice none 0 0] 28) := ⟨_, rfl⟩
     have hz4 : W4.heap.size = W3.heap.size + 1 := by rw [hW4]; simp
     rw [← hW4] at tX XX hvw1 ⊢
     clear hW4
     obtain ⟨bx, hbx⟩ : ∃ bx, W3.heap.size = bx := ⟨_, rfl⟩
     rw [hbx] at XX hz4 hz3 ⊢
     have hk0 := World.iter_heap W4 (fBA f) 0
     have tI := (Turned.refl (fun _ => False) W4).alloc (.stringIter (fBA f) 0)
     have x0ok : AskV.Ok ⟨k, rq, [], 0, 0, 0, 0, 0, 0, [], []⟩ := ⟨(show isByte ((k : Nat) : Int) by unfold isByte; omega), hv64, by unfold strOk; simp, by unfold I64; simp, by unfold I64; simp, by unfold I64; simp, by unfold I64; simp, by unfold I64; simp, by unfold I64; simp, by simp, by simp⟩
     have tXI := tX.out.and_ tI
     have hst := hZ (show KRel w0 B g bx W4.heap.size br f (⟨k, rq, [], 0, 0, 0, 0, 0, 0, [], []⟩, rs3, b3) w (W4.alloc (.stringIter (fBA f) 0)) from
      ⟨0, AskS.nil, Nat.zero_le _, ⟨B3.out.b.next (turned_same tXI), R3.out.fresh tXI, AskAt.fresh XX.out tI, ⟨OwnE.nil _ _ _, OwnE.nil _ _ _, (fun g e => by cases e), (fun g e => by cases e)⟩, by omega, x0ok, by simp; omega, by simp; omega, by simp; omega⟩, hk0, XR3.out.turned tXI (fun e => e), T3.out.eq_ (turned_same tXI), ⟨fun i e => (by cases e), fun i e => (by cases e)⟩⟩)
     have hbi : bx < W4.heap.size := by omega
     have hwbx : br < bx := by omega
     rw [hz4] at hst hbi
     clear tX tI XX XV3 XR3 T3 B3 R3 hk0 hvw1 hv64 x0ok tXI hbx hz4 hz3 hzv hz2v
     go_wp2_with fail
     generalize hgi : bx + 1 = bi at *
     clear hgi
     generalize (⟨k, rq, [], 0, 0, 0, 0, 0, 0, [], []⟩ : AskV) = x0 at *
     go_loopw [] (fun wr => KRel w0 B g bx bi br f (x0, rs3, b3) w wr) (fun wr => f.length - wr.iterPos bi)
     case atStart => exact hst.out
     case round =>
      obtain ⟨pos, S, hpl0, hW0, hit, hres0, hT0, hM0⟩ := hrel
      have hW := hZ hW0
      have hres := hZ hres0
      have hT := hZ hT0
      have hM := hZ hM0
      have hmu := hZ (show wr.iterPos bi = pos by simp [World.iterPos, hit])
      clear hW0 hres0 hT0 hM0 hst
      by_cases hp : pos < (fBA f).size
      ·have hpl : pos < f.length := by rw [fBA_size] at hp; exact hp
       obtain ⟨c, hcm2, hcv, htk0, h128⟩ := letter_at hk3 hp
       have htk := hZ htk0
       have hnext : ∀ ty, (Instr.next (.pointer (some ⟨bi, 0, none⟩)) true ty).run Tryz.prog wr = _ := fun ty => Lib.run_next_ascii_at wr bi (fBA f) pos ty hit hp (by rw [hcv]; exact h128)
       generalize ((fBA f)[pos]'hp).toNat = k' at hnext hcv
       subst hcv
       obtain ⟨F1, tI, hit1⟩ := hW.out.iter hit (by omega) (pos + 1)
       have F1 := hZ F1
       have hit1 := hZ hit1
       have tI := hZ tI
       generalize wr.iterAt bi (fBA f) (pos + 1) = W1 at hnext F1 hit1 tI
       clear hit hW htk0
       go_wp2_with fail
       refine (field_any w0 B g bx _ S _ _ k' hcm2 W1 F1.out).mono ?_
       rintro e W2 ⟨rfl, S', F2, t2, m2⟩
       have n1 : ¬ FldV g bx S bi := fun e => by
        rcases e with e | e | e | e
        ·omega
        ·omega
        ·exact own_it F1.out.own.parts hit1.out e
        ·exact own_it F1.out.own.others hit1.out e
       have r1 : Blk W1 br 28 _ := hres.out.turned tI.out (fun e => by omega)
       have n2 : ¬ FldV g bx S br := fun e => by
        rcases e with e | e | e | e
        ·omega
        ·omega
        ·exact F1.out.own.parts.blk r1 (by decide) e rfl
        ·exact F1.out.own.others.blk r1 (by decide) e rfl
       have hit2 := (t2.block bi (heap_lt hit1.out) n1).trans hit1.out
       have hTn : Turned (· = g) w W2 := (hT.out.trans tI.out (fun _ e => e) (fun i e => .inr (by subst e; omega))).trans t2 (fun _ e => e) (fun i e => by
        rcases e with e | e | e | e
        ·exact .inl e
        ·exact .inr (by omega)
        ·exact .inr ((hM.out.1 i e).elim (fun h => by cases h) (fun h => h))
        ·exact .inr ((hM.out.2 i e).elim (fun h => by cases h) (fun h => h)))
       have FI := hZ (show KRel w0 B g bx bi br f (x0, rs3, b3) w W2 from ⟨pos + 1, S', hpl, by
        rw [htk.out, List.foldl_append]
        exact F2, hit2, r1.turned t2 n2, hTn, hM.out.trans m2 (Nat.le_trans hT.out.size tI.out.size)⟩)
       have hmu2 := hZ (show W2.iterPos bi = pos + 1 by simp [World.iterPos, hit2])
       clear F2 t2 m2 n1 n2 r1 hit2 hTn
       go_wp2_with fail
       go_roundw
       case rel => exact FI.out
       case measure =>
        rw [hmu.out, hmu2.out]
        omega
      ·have hpe : pos = f.length := by rw [fBA_size] at hp; omega
       subst hpe
       have hnext : ∀ ty, (Instr.next (.pointer (some ⟨bi, 0, none⟩)) true ty).run Tryz.prog wr = _ := fun ty => Lib.run_next_end_at wr bi (fBA f) f.length ty hit hp
       rw [List.take_length] at hW
       generalize f.foldl fieldP (x0, rs3, b3) = y at hW hask
       obtain ⟨⟨xk, xr, xi, xq, xd, xl, xa, xt, xn, xp, xo⟩, wsz, bz⟩ := y
       obtain ⟨⟨PA, Pn, Pc⟩, ⟨QA, On, Oc⟩⟩ := S
       have hW : Hid (FldW w0 B g bx ⟨xk, xr, xi, xq, xd, xl, xa, xt, xn, xp, xo⟩ ⟨⟨PA, Pn, Pc⟩, ⟨QA, On, Oc⟩⟩ wsz bz wr) := hW
       have hask : Hid (askP ws bad = (⟨xk, xr, xi, xq, xd, xl, xa, xt, xn, xp, xo⟩, wsz, bz || !rightA ⟨xk, xr, xi, xq, xd, xl, xa, xt, xn, xp, xo⟩)) := hask
       have r1 := hW.out.rd.cells.1
       have r2 := hW.out.rd.cells.2
       obtain ⟨rs, hrb⟩ : ∃ cs, Blk wr g 69 cs := hW.out.rd.blk
       have hrb := hZ hrb
       cases bz with
       | true =>
        have XR := hres
        have TT := hT
        rw [Bool.true_or] at hask
        have hne : br ≠ g := by omega
        have TS := hZ (turned_one wr g 1 (.bool true))
        have RS := hZ (hW.out.rd.bad_ true)
        have X1 := hZ (XR.out.turned TS.out hne)
        have A1 := hZ ((hW.out.aa).turned TS.out (fun e => by have := hW.out.gx; omega))
        obtain ⟨c0, c1', c2, c3, c4, c5, c6, c7, c8, c9, c10⟩ := AskAt.cells A1.out
        simp only at c0 c1' c2 c3 c4 c5 c6 c7 c8 c9 c10
        obtain ⟨y0, y1, y2, y3, y4, y5, y6, y7, y8, y9, y10⟩ := X1.out.cells11
        have yf := X1.out.frozen
        go_wp2_with fail
        obtain ⟨wz, hwz, XZ, tZ⟩ := fin11 (.int .u8 xk) (.int .i64 xr) (.string ⟨xi.toArray⟩) (.int .i64 xq) (.int .i64 xd) (.int .i64 xl) (.int .i64 xa) (.int .i64 xt) (.int .i64 xn) (.slice PA Pn Pc) (.slice QA On Oc) X1.out
        rw [hwz]
        clear hwz
        obtain ⟨e0, e1, e2, e3, e4, e5, e6, e7, e8, e9, e10⟩ := XZ.cells11
        refine bodyPost_ret (v := .agg #[.int .u8 xk, .int .i64 xr, .string ⟨xi.toArray⟩, .int .i64 xq, .int .i64 xd, .int .i64 xl, .int .i64 xa, .int .i64 xt, .int .i64 xn, .slice PA Pn Pc, .slice QA On Oc]) (by simp [results, Tryz.results65, go_sem, e0, e1, e2, e3, e4, e5, e6, e7, e8, e9, e10]) rfl ?_
        unfold AskPost
        rw [hask.out]
        have ow : AskOwn wr w.heap.size ⟨xk, xr, xi, xq, xd, xl, xa, xt, xn, xp, xo⟩ ⟨⟨PA, Pn, Pc⟩, ⟨QA, On, Oc⟩⟩ := ⟨hW.out.own.parts, hW.out.own.others, fun i e => (hM.out.1 i e).elim (fun h => by cases h) (fun h => h), fun i e => (hM.out.2 i e).elim (fun h => by cases h) (fun h => h)⟩
        refine ⟨⟨⟨PA, Pn, Pc⟩, ⟨QA, On, Oc⟩⟩, rfl, RS.out.turned tZ (fun i e => by subst e; exact hbr), (ow.moved TS.out (fun i e => e) (hrb.out) (by decide) (by decide)).moved tZ (fun i e => e) X1.out (by decide) (by decide), hW.out.ok, ?_⟩
        exact (TT.out.eq_ TS.out).trans tZ (fun _ e => e) (fun i e => .inr (by subst e; omega))
       | false =>
        rw [Bool.false_or] at hask
        obtain ⟨z0, z1, z2, z3, z4, z5, z6, z7, z8, z9, z10⟩ := AskAt.cells hW.out.aa
        simp only at z0 z1 z2 z3 z4 z5 z6 z7 z8 z9 z10
        have hR := hZ (ask_right_any ⟨xk, xr, xi, xq, xd, xl, xa, xt, xn, xp, xo⟩ ⟨⟨PA, Pn, Pc⟩, ⟨QA, On, Oc⟩⟩ wr hW.out.own.is hW.out.ok (hB'.out.kinds.fresh hW.out.base.t) (by have := hW.out.pN; omega))
        go_wp2_with fail
        refine hR.out.mono ?_
        rintro e W5 ⟨rfl, t5⟩
        have t5 := hZ t5
        have hW5 := hZ (hW.out.fresh t5.out)
        have XR := hZ (hres.out.turned t5.out (fun e => e))
        have TT := hZ (hT.out.eq_ (turned_same t5.out))
        have hrb5 := hZ (hrb.out.turned t5.out (fun e => e))
        have r1 := hW5.out.rd.cells.1
        have r2 := hW5.out.rd.cells.2
        clear z0 z1 z2 z3 z4 z5 z6 z7 z8 z9 z10 hR
        generalize rightA ⟨xk, xr, xi, xq, xd, xl, xa, xt, xn, xp, xo⟩ = rgt at *
        have hne : br ≠ g := by omega
        have TS := hZ (turned_one W5 g 1 (.bool (!rgt)))
        have RS := hZ (hW5.out.rd.bad_ (!rgt))
        have X1 := hZ (XR.out.turned TS.out hne)
        have A1 := hZ ((hW5.out.aa).turned TS.out (fun e => by have := hW5.out.gx; omega))
        obtain ⟨c0, c1', c2, c3, c4, c5, c6, c7, c8, c9, c10⟩ := AskAt.cells A1.out
        simp only at c0 c1' c2 c3 c4 c5 c6 c7 c8 c9 c10
        obtain ⟨y0, y1, y2, y3, y4, y5, y6, y7, y8, y9, y10⟩ := X1.out.cells11
        have yf := X1.out.frozen
        go_wp2_with fail
        obtain ⟨wz, hwz, XZ, tZ⟩ := fin11 (.int .u8 xk) (.int .i64 xr) (.string ⟨xi.toArray⟩) (.int .i64 xq) (.int .i64 xd) (.int .i64 xl) (.int .i64 xa) (.int .i64 xt) (.int .i64 xn) (.slice PA Pn Pc) (.slice QA On Oc) X1.out
        rw [hwz]
        clear hwz
        obtain ⟨e0, e1, e2, e3, e4, e5, e6, e7, e8, e9, e10⟩ := XZ.cells11
        refine bodyPost_ret (v := .agg #[.int .u8 xk, .int .i64 xr, .string ⟨xi.toArray⟩, .int .i64 xq, .int .i64 xd, .int .i64 xl, .int .i64 xa, .int .i64 xt, .int .i64 xn, .slice PA Pn Pc, .slice QA On Oc]) (by simp [results, Tryz.results65, go_sem, e0, e1, e2, e3, e4, e5, e6, e7, e8, e9, e10]) rfl ?_
        unfold AskPost
        rw [hask.out]
        have ow : AskOwn W5 w.heap.size ⟨xk, xr, xi, xq, xd, xl, xa, xt, xn, xp, xo⟩ ⟨⟨PA, Pn, Pc⟩, ⟨QA, On, Oc⟩⟩ := ⟨hW5.out.own.parts, hW5.out.own.others, fun i e => (hM.out.1 i e).elim (fun h => by cases h) (fun h => h), fun i e => (hM.out.2 i e).elim (fun h => by cases h) (fun h => h)⟩
        refine ⟨⟨⟨PA, Pn, Pc⟩, ⟨QA, On, Oc⟩⟩, rfl, RS.out.turned tZ (fun i e => by subst e; exact hbr), (ow.moved TS.out (fun i e => e) (hrb5.out) (by decide) (by decide)).moved tZ (fun i e => e) X1.out (by decide) (by decide), hW5.out.ok, ?_⟩
        exact (TT.out.eq_ TS.out).trans tZ (fun _ e => e) (fun i e => .inr (by subst e; omega))
    ·have hcmp : (vt == wd) = false := beq_eq_false_iff_ne.2 he
     go_wp2_with fail
     go_roundw
     case rel => exact FI.out (.inr he) _ (by rw [hvw, hvg])
     case measure => simp [intOf] <;> omega
  ·obtain rfl : k = 16 := by omega
   have hnone := noVerb_kind hno.out
   rw [hnone] at hask
   have hask : Hid (askP ws bad = (AskV.zero, ws.tail, true)) := hask
   have c1 := (R2.out.fresh ht.out).cells.1
   have f1 := (R2.out.fresh ht.out).cells.2
   have hne : br ≠ g := by omega
   have T1 := hZ (turned_one wr g 1 (.bool true))
   have R1 := hZ ((R2.out.fresh ht.out).bad_ true)
   have X1 := hZ ((X2.out.turned ht.out (fun e => e)).turned T1.out hne)
   obtain ⟨y0, y1, y2, y3, y4, y5, y6, y7, y8, y9, y10⟩ := X1.out.cells11
   have yf := X1.out.frozen
   go_wp2_with fail
   obtain ⟨wz, hwz, XZ, tZ⟩ := fin11 (.int .u8 0) (.int .i64 0) (.string ⟨#[]⟩) (.int .i64 0) (.int .i64 0) (.int .i64 0) (.int .i64 0) (.int .i64 0) (.int .i64 0) (.slice none 0 0) (.slice none 0 0) X1.out
   rw [hwz]
   clear hwz
   obtain ⟨e0, e1, e2, e3, e4, e5, e6, e7, e8, e9, e10⟩ := XZ.cells11
   refine bodyPost_ret (v := .agg #[.int .u8 0, .int .i64 0, .string ⟨#[]⟩, .int .i64 0, .int .i64 0, .int .i64 0, .int .i64 0, .int .i64 0, .int .i64 0, .slice none 0 0, .slice none 0 0]) (by simp [results, Tryz.results65, go_sem, e0, e1, e2, e3, e4, e5, e6, e7, e8, e9, e10]) rfl ?_
   unfold AskPost
   rw [hask.out]
   refine ⟨AskS.nil, rfl, R1.out.turned tZ (fun i e => by subst e; exact hbr), ⟨OwnE.nil _ _ _, OwnE.nil _ _ _, (fun g e => by cases e), (fun g e => by cases e)⟩, AskV.Ok.zero, ?_⟩
   exact ((T2.out.eq_ (turned_same ht.out)).eq_ T1.out).trans tZ (fun _ e => e) (fun i e => .inr (by subst e; omega))
end Go.Proofs.YtglojnmcbochaaaGreatDoor

