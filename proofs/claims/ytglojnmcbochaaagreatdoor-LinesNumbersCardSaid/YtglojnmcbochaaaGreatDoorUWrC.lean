/-
 A writer takes a command. Conditions: the library's variables, ask.kinds and lines.verbs hold what their initialisers lay; at most 1000 words ahead, at most 1000000 parts.
-/
import Derived.Test.YtglojnmcbochaaaGreatDoorUWrB
import Derived.Test.YtglojnmcbochaaaGreatDoorURdK
import Derived.Test.YtglojnmcbochaaaGreatDoorUCodN
import Derived.Maps.OwnOps
namespace Go.Proofs.YtglojnmcbochaaaGreatDoor
open Go.RowKit Go.Maps
set_option linter.unusedVariables false
set_option linter.unusedSimpArgs false

section
variable {B g bi : Nat} {w W : World}
theorem iter_turned (W : World) (bi : Nat) (s : ByteArray) (p : Nat) : Turned (· = bi) W (W.iterAt bi s p) := ⟨rfl, rfl, rfl, by simp [World.iterAt], fun i hi hn => by
 simp only [World.iterAt]
 rw [Array.getElem?_setIfInBounds_ne (fun e => hn e.symm)]⟩
theorem WrT.heap {o : Obj} {i : Nat} (h : WrT B g w W) (hi : w.heap[i]? = some o) (hg : i ≠ g) (ho : ∀ cs f, o ≠ .cells cs 9 f) : W.heap[i]? = some o :=
 (Turned.block h i (heap_lt hi) (fun e => by
  rcases e with e | ⟨_, cs, f, e⟩
  ·exact hg e
  ·rw [hi] at e
   injection e with e
   exact ho cs f e)).trans hi
theorem WrW.iter {ws : WS} {s : ByteArray} {pos : Nat} (h : WrW W B g ws) (hit : W.heap[bi]? = some (.stringIter s pos)) (p : Nat) : WrW (W.iterAt bi s p) B g ws := by
 obtain ⟨A, c, h1, h2, h3⟩ := h
 refine ⟨A, c, h1.turned (iter_turned W bi s p) (fun e => ?_), h2.turned (iter_turned W bi s p) (fun i e k => ?_), h3⟩
 ·subst e
  unfold Blk at h1
  rw [hit] at h1
  cases h1
 ·subst k
  obtain ⟨cs, f, e2⟩ := StrAt.of_own h2 e
  rw [hit] at e2
  cases e2
theorem WrT.iter {s : ByteArray} {p : Nat} (h : WrT B g w W) (hb : w.heap.size ≤ bi) : WrT B g w (W.iterAt bi s p) :=
 Turned.trans (W := fun i => i = g ∨ (B ≤ i ∧ StrAt w i)) h (iter_turned W bi s p) (fun _ e => e) (fun i e => .inr (by subst e; exact hb))
end
theorem wpList_insert_own {H : Type} {P : Program} (w : World) {ops : Array Oper} {rest : List Oper} {o : Oper} {a : Act} {Q : Exit → Act → World → Prop}
  (hg : o.guard = none) (m x v : Operand) (t : TypeId) (hop : o.op = Op.insert t m x v)
  (k e : TypeId) (K : Keyed P k) (ht : P.underlying t = some (.map k e)) (R : Value → Option (DataW H × List MemPlace)) (b n : Nat) (D : DataW H)
  (hm : a.eval m = .map (some b)) (hown : w.ownsMap P k R b n D) (hn : n < maxLen) (key val : Value) (kl : Lit) (hx : a.eval x = key) (hv : a.eval v = val) (hkey : keyOf P k key = some kl)
  (d : DataW H) (ps : List MemPlace) (hval : R val = some (d, ps))
  (hK : ∀ w', w'.ownsMap P k R b (n + 1) (D.put kl d) → w.grownBy w' (some b) → wpList P ops Q rest (a.put o.dst undef) w') :
  wpList P ops Q (o :: rest) a w := by
 refine wpList_plain hg fun K' hK' => ?_
 obtain ⟨w', hrun, r1, r2⟩ := hown.update K ht hn hkey hval
 unfold Oper.wp
 simp [execOp, hop, hm, hx, hv, hrun, Result.andThen]
 exact hK' _ _ (hK w' r1 r2)
def smallD (d l r t n : Int) : DataW Unit := (((((DataW.map []).put (.int .i32 100) (.lit (.int .i64 d))).put (.int .i32 108) (.lit (.int .i64 l))).put (.int .i32 114) (.lit (.int .i64 r))).put (.int .i32 116) (.lit (.int .i64 t))).put (.int .i32 110) (.lit (.int .i64 n))
theorem small_at (d l r t n : Int) (k v : Int) (h : (k = 100 ∧ v = d) ∨ (k = 108 ∧ v = l) ∨ (k = 114 ∧ v = r) ∨ (k = 116 ∧ v = t) ∨ (k = 110 ∧ v = n)) : (smallD d l r t n).atKey (.int .i32 k) (.lit (.int .i64 0)) = .lit (.int .i64 v) := by
 have ne : ∀ a b : Int, a ≠ b → Lit.int .i32 a ≠ Lit.int .i32 b := fun a b h e => by injection e with _ e; exact h e
 unfold smallD
 rcases h with ⟨rfl, rfl⟩ | ⟨rfl, rfl⟩ | ⟨rfl, rfl⟩ | ⟨rfl, rfl⟩ | ⟨rfl, rfl⟩
 ·rw [atKey_put_other (ne _ _ (by decide)), atKey_put_other (ne _ _ (by decide)), atKey_put_other (ne _ _ (by decide)), atKey_put_other (ne _ _ (by decide)), atKey_put_same (k := .int .i32 100) isMap_empty trivial]
 ·rw [atKey_put_other (ne _ _ (by decide)), atKey_put_other (ne _ _ (by decide)), atKey_put_other (ne _ _ (by decide)), atKey_put_same (k := .int .i32 108) (isMap_empty.put _ _) trivial]
 ·rw [atKey_put_other (ne _ _ (by decide)), atKey_put_other (ne _ _ (by decide)), atKey_put_same (k := .int .i32 114) ((isMap_empty.put _ _).put _ _) trivial]
 ·rw [atKey_put_other (ne _ _ (by decide)), atKey_put_same (k := .int .i32 116) (((isMap_empty.put _ _).put _ _).put _ _) trivial]
 ·rw [atKey_put_same (k := .int .i32 110) ((((isMap_empty.put _ _).put _ _).put _ _).put _ _) trivial]
theorem fieldW_len {a : AskV} {c : Nat} (h : okF a c = true) (hc : c ∈ letters) : (fieldW a c).length ≤ 16 := by
 unfold letters at hc
 simp only [List.mem_cons, List.not_mem_nil, or_false] at hc
 rcases hc with rfl | rfl | rfl | rfl | rfl | rfl | rfl | rfl | rfl <;> simp only [okF, fieldW, Nat.reduceEqDiff, if_true, if_false] at h ⊢ <;> try (simp; done)
 ·have := (partsB_mem h).2.1
  rw [flatLen _ 2 (fun _ => rfl)]
  omega
 ·have := (othersB_mem h).1
  omega
theorem fieldsW_len {a : AskV} : ∀ f : List Nat, (∀ c ∈ f, okF a c = true ∧ c ∈ letters) → (f.flatMap (fieldW a)).length ≤ 16 * f.length
 | [], _ => by simp
 | c :: f, h => by
  rw [List.flatMap_cons, List.length_append, List.length_cons]
  have h1 := fieldW_len (h c (by simp)).1 (h c (by simp)).2
  have h2 := fieldsW_len f (fun d hd => h d (by simp [hd]))
  omega
theorem flat_snoc {α β : Type} (f : α → List β) (l : List α) (c : α) : (l ++ [c]).flatMap f = l.flatMap f ++ f c := by simp
theorem kindsL_len {f : List Nat} (h : f ∈ kindsL) : f.length ≤ 4 := by
 unfold kindsL at h
 simp only [List.mem_cons, List.not_mem_nil, or_false] at h
 rcases h with rfl | rfl | rfl | rfl | rfl | rfl | rfl | rfl | rfl | rfl | rfl <;> decide
def AkRel (B g bt bi : Nat) (cs : Array Value) (f : List Nat) (F : Nat → WS) (w wr : World) : Prop :=
 ∃ pos : Nat, pos ≤ f.length ∧ wr.heap[bi]? = some (.stringIter (fBA f) pos) ∧ Blk wr bt 28 cs ∧ WrW wr B g (F pos) ∧ WrT B g w wr
def PkRel (B g bt bi n : Nat) (cs : Array Value) (f : List Nat) (pos : Nat) (F : Nat → WS) (w : World) (i : Value) (wr : World) : Prop :=
 ∃ j : Nat, j ≤ n ∧ i = .int .i64 j ∧ wr.heap[bi]? = some (.stringIter (fBA f) pos) ∧ Blk wr bt 28 cs ∧ WrW wr B g (F j) ∧ WrT B g w wr
theorem Blk.cells2 {w : World} {g : Nat} {t : TypeId} {a0 a1 : Value} (h : Blk w g t #[a0, a1]) : w.cell? ⟨g, 0, none⟩ = some a0 ∧ w.cell? ⟨g, 1, none⟩ = some a1 := ⟨h.cell 0, h.cell 1⟩
theorem wf_i64b {k : Int} (h : I64 k) : (Lit.int .i64 k).wf = true := wf_of k h.1 h.2
set_option maxRecDepth 100000 in
set_option maxHeartbeats 16000000 in
theorem wr_asks (w0 : World) (g : Nat) (ws : WS) (a : AskV) (S : AskS) (w : World) (hv0 : VarsOk w0) (hK0 : KindsOk w0) (hV0 : VerbsOk w0) (t00 : Turned (fun _ => False) w0 w) (hg : w0.heap.size ≤ g) (h : WrW w w0.heap.size g ws) (hIs : AskIs w0 a S) (hok : a.Ok) (hP : a.parts.length ≤ 1000000) (hN0 : ws.length ≤ 1000) :
  Calls Tryz.prog 36 #[.pointer (some ⟨g, 0, none⟩), .agg (askC a S)] w (WrPost w0.heap.size g (ws ++ asksW a) w) := by
 have hRt := hZ (fun W (h : Turned (fun _ => False) w0 W) => ask_right_any a S W (hIs.fresh h) hok (hK0.fresh h) hP)
 obtain ⟨kd, rq, it, qt, dy, dz, rk, lo, ln, parts, others⟩ := a
 obtain ⟨⟨PA, Pn, Pc⟩, ⟨QA, On, Oc⟩⟩ := S
 have hb1 := Nat.le_trans hIs.parts.le hIs.parts.max
 have hb2 := Nat.le_trans hIs.others.le hIs.others.max
 unfold maxLen at hb1 hb2
 simp only at hb1 hb2
 have hI := hZ hIs
 have hOk := hZ hok
 have hVr := hZ hV0
 have hN := hZ hN0
 have hv := hZ hv0
 have t0w := hZ t00
 have hzw := hZ t00.size
 have H0 := hZ h
 have hgl := h.lt
 clear hIs hok hV0 hK0 hP hN0 hv0 t00 h
 unfold askC strV at hRt ⊢
 simp only at hRt ⊢
 go_enter Tryz.func36, Tryz.ntmps36
 go_wp2_with fail
 have tb := (Turned.refl (fun _ => False) w).alloc (.cells #[.int .u8 kd, .int .i64 rq, .string ⟨it.toArray⟩, .int .i64 qt, .int .i64 dy, .int .i64 dz, .int .i64 rk, .int .i64 lo, .int .i64 ln, .slice PA Pn Pc, .slice QA On Oc] 28)
 have hB0 := Blk.new w 28 #[.int .u8 kd, .int .i64 rq, .string ⟨it.toArray⟩, .int .i64 qt, .int .i64 dy, .int .i64 dz, .int .i64 rk, .int .i64 lo, .int .i64 ln, .slice PA Pn Pc, .slice QA On Oc]
 refine (hRt.out _ (t0w.out.and_ tb)).mono ?_
 rintro e W1 ⟨rfl, t1⟩
 have HW1 := hZ ((H0.out.fresh tb).fresh t1)
 have TT1 := hZ ((WrT.of tb : WrT w0.heap.size g _ _).trans (WrT.of t1))
 have t01 := hZ ((t0w.out.and_ tb).and_ t1)
 have hz1 := hZ (Nat.le_trans hzw.out (tb.and_ t1).size)
 have AA1 := hZ (hB0.turned t1 (fun e => e))
 obtain ⟨bt, hbt⟩ : ∃ bt, w.heap.size = bt := ⟨_, rfl⟩
 rw [hbt] at AA1 ⊢
 have hbg : bt ≠ g := by omega
 clear hbt tb t1 hB0 hRt H0 hgl
 obtain ⟨x0, x1, x2, x3, x4, x5, x6, x7, x8, x9, x10⟩ := AA1.out.cells11
 cases hr : rightA ⟨kd, rq, it, qt, dy, dz, rk, lo, ln, parts, others⟩ with
 | false =>
  have hr' := hZ hr
  clear hr
  go_wp2_with fail
  refine (wr_word1 [110, 111, 110, 101] HW1.out hz1.out (by have := hN.out; (try simp only [List.length_append, List.length_cons, List.length_nil]); omega)).mono ?_
  rintro e W2 ⟨rfl, hw2, tw2⟩
  have HW2 := hZ hw2
  have TT2 := hZ (TT1.out.trans tw2)
  have t02 := hZ (tw2.all t01.out hg)
  have hz2 := hZ (Nat.le_trans hz1.out tw2.size)
  have AA2 := hZ (tw2.blk AA1.out (by decide) hbg)
  clear hw2 tw2 HW1 TT1 t01 hz1 AA1 x0 x1 x2 x3 x4 x5 x6 x7 x8 x9 x10
  obtain ⟨x0, x1, x2, x3, x4, x5, x6, x7, x8, x9, x10⟩ := AA2.out.cells11
  go_wp2_with fail
  go_end0
  have e : asksW ⟨(kd : Int), rq, it, qt, dy, dz, rk, lo, ln, parts, others⟩ = [[110, 111, 110, 101]] := by unfold asksW; rw [if_neg (by rw [hr'.out]; decide)]
  rw [e]
  exact ⟨rfl, HW2.out, TT2.out⟩
 | true =>
  have hr' := hZ hr
  clear hr
  obtain ⟨f, hf, hfo, hall⟩ := right_ok hr'.out
  clear hall
  obtain ⟨kn, hkn, hk1, hk2⟩ : ∃ kn : Nat, kd = (kn : Int) ∧ 1 ≤ kn ∧ kn < 16 := by
   have := fieldsK_range (show fieldsK kd = some f from hf)
   exact ⟨kd.toNat, by omega, by omega, by omega⟩
  subst hkn
  have hkk := kindW_of hf
  obtain ⟨hvs1, hvs2⟩ := (hVr.out.fresh t01.out) kn hk2
  have hvt : verbW kn = .string ⟨(wordOf kn).toArray⟩ := rfl
  have hvf : verbG kn = .string (fBA (verbF.getD kn [])) := rfl
  have hvf2 : verbF.getD kn [] = f := hkk.2.2
  rw [hvt] at hvs1
  rw [hvf, hvf2] at hvs2
  have hkf := hZ (fieldsK_kinds hf)
  have hfo := hZ hfo
  have hff := hZ hf
  clear hvt hvf hvf2 hkk hf
  obtain ⟨vt, hvt0⟩ : ∃ vt, wordOf kn = vt := ⟨_, rfl⟩
  rw [hvt0] at hvs1
  have hvt := hZ hvt0
  clear hvt0
  have hki : (kn : Int) < 16 := by omega
  have hke : (kn : Int) ≤ 255 := by omega
  have hvs1b : W1.cell? ⟨1, kn * 2, none⟩ = some (.string ⟨vt.toArray⟩) := by rw [Nat.mul_comm]; exact hvs1
  have hvs2b : W1.cell? ⟨1, kn * 2 + 1, none⟩ = some (.string (fBA f)) := by rw [Nat.mul_comm]; exact hvs2
  clear hvs1 hvs2
  go_upto_region 4 with fail
  have tb := (Turned.refl (fun _ => False) W1).alloc (.cells #[.string ⟨vt.toArray⟩, .string (fBA f)] 135)
  have VV2 := hZ (Blk.new W1 135 #[.string ⟨vt.toArray⟩, .string (fBA f)])
  have HW2 := hZ (HW1.out.fresh tb)
  have TT2 := hZ (TT1.out.trans (WrT.of tb))
  have t02 := hZ (t01.out.and_ tb)
  have hz2 := hZ (Nat.le_trans hz1.out tb.size)
  have AA2 := hZ (AA1.out.turned tb (fun e => e))
  have hvg : W1.heap.size ≠ g := by have := HW1.out.lt; omega
  obtain ⟨W2, hW2⟩ : ∃ W2, W2 = W1.alloc (.cells #[.string ⟨vt.toArray⟩, .string (fBA f)] 135) := ⟨_, rfl⟩
  rw [← hW2] at VV2 HW2 TT2 t02 hz2 AA2 ⊢
  clear hW2
  obtain ⟨bv, hbv⟩ : ∃ bv, W1.heap.size = bv := ⟨_, rfl⟩
  rw [hbv] at VV2 hvg ⊢
  clear hbv HW1 TT1 t01 hz1 AA1 tb hvs1b hvs2b x0 x1 x2 x3 x4 x5 x6 x7 x8 x9 x10
  obtain ⟨x0, x1, x2, x3, x4, x5, x6, x7, x8, x9, x10⟩ := AA2.out.cells11
  obtain ⟨v0, v1⟩ := VV2.out.cells2
  go_wp2_with fail
  refine (wr_word1 vt HW2.out hz2.out (by have := hN.out; (try simp only [List.length_append, List.length_cons, List.length_nil]); omega)).mono ?_
  rintro e W3 ⟨rfl, hw3, tw3⟩
  have HW3 := hZ hw3
  have TT3 := hZ (TT2.out.trans tw3)
  have t03 := hZ (tw3.all t02.out hg)
  have hz3 := hZ (Nat.le_trans hz2.out tw3.size)
  have AA3 := hZ (tw3.blk AA2.out (by decide) hbg)
  have VV3 := hZ (tw3.blk VV2.out (by decide) hvg)
  clear hw3 tw3 HW2 TT2 t02 hz2 AA2 VV2 x0 x1 x2 x3 x4 x5 x6 x7 x8 x9 x10 v0 v1
  obtain ⟨x0, x1, x2, x3, x4, x5, x6, x7, x8, x9, x10⟩ := AA3.out.cells11
  obtain ⟨v0, v1⟩ := VV3.out.cells2
  go_wp2_with fail
  refine (wr_num1 (rq) hv.out t03.out hg HW3.out hOk.out.request (by have := hN.out; (try simp only [List.length_append, List.length_cons, List.length_nil]); omega)).mono ?_
  rintro e W4 ⟨rfl, hw4, tw4⟩
  have HW4 := hZ hw4
  have TT4 := hZ (TT3.out.trans tw4)
  have t04 := hZ (tw4.all t03.out hg)
  have hz4 := hZ (Nat.le_trans hz3.out tw4.size)
  have AA4 := hZ (tw4.blk AA3.out (by decide) hbg)
  have VV4 := hZ (tw4.blk VV3.out (by decide) hvg)
  clear hw4 tw4 HW3 TT3 t03 hz3 AA3 VV3 x0 x1 x2 x3 x4 x5 x6 x7 x8 x9 x10 v0 v1
  obtain ⟨x0, x1, x2, x3, x4, x5, x6, x7, x8, x9, x10⟩ := AA4.out.cells11
  obtain ⟨v0, v1⟩ := VV4.out.cells2
  skip
  obtain ⟨ws3, hws3⟩ : ∃ ws3, ws3 = ws ++ [vt] ++ [Lib.itoa rq] := ⟨_, rfl⟩
  rw [← hws3] at HW4
  have hws3h := hZ hws3
  have hN3 := hZ (show ws3.length ≤ 1002 from by rw [hws3]; have := hN.out; simp only [List.length_append, List.length_cons, List.length_nil]; omega)
  clear hws3
  go_wp2_with fail
  have hk0 := World.iter_heap W4 (fBA f) 0
  have tI := (Turned.refl (fun _ => False) W4).alloc (.stringIter (fBA f) 0)
  have hbiw := hZ (show w.heap.size ≤ W4.heap.size from TT4.out.size)
  have hbib : bt ≠ W4.heap.size := by have := AA4.out.lt; omega
  have hst := hZ (show AkRel w0.heap.size g bt W4.heap.size #[.int .u8 kn, .int .i64 rq, .string ⟨it.toArray⟩, .int .i64 qt, .int .i64 dy, .int .i64 dz, .int .i64 rk, .int .i64 lo, .int .i64 ln, .slice PA Pn Pc, .slice QA On Oc] f (fun p => ws3 ++ (f.take p).flatMap (fieldW ⟨(kn : Int), rq, it, qt, dy, dz, rk, lo, ln, parts, others⟩)) w (W4.alloc (.stringIter (fBA f) 0)) from ⟨0, Nat.zero_le _, hk0, AA4.out.turned tI (fun e => e), by simpa using HW4.out.fresh tI, TT4.out.trans (WrT.of tI)⟩)
  have hbig : W4.heap.size ≠ g := by have := HW4.out.lt; omega
  clear tI hk0 AA4 VV4 HW4 TT4 t04 hz4 x0 x1 x2 x3 x4 x5 x6 x7 x8 x9 x10 v0 v1
  generalize W4.heap.size = bi at *
  go_loopw [] (fun wr => AkRel w0.heap.size g bt bi #[.int .u8 kn, .int .i64 rq, .string ⟨it.toArray⟩, .int .i64 qt, .int .i64 dy, .int .i64 dz, .int .i64 rk, .int .i64 lo, .int .i64 ln, .slice PA Pn Pc, .slice QA On Oc] f (fun p => ws3 ++ (f.take p).flatMap (fieldW ⟨(kn : Int), rq, it, qt, dy, dz, rk, lo, ln, parts, others⟩)) w wr) (fun wr => f.length - wr.iterPos bi)
  case atStart => exact hst.out
  case round =>
   obtain ⟨pos, hpl0, hit, hBr0, hWr0, hTr0⟩ := hrel
   clear hst
   have hmu := hZ (show wr.iterPos bi = pos by simp [World.iterPos, hit])
   have AA1 := hZ hBr0
   have HW1 := hZ (show WrW wr w0.heap.size g (ws3 ++ (f.take pos).flatMap (fieldW ⟨(kn : Int), rq, it, qt, dy, dz, rk, lo, ln, parts, others⟩)) from hWr0)
   have TT1 := hZ hTr0
   have t01 := hZ (hTr0.all t0w.out hg)
   have hz1 := hZ (Nat.le_trans hzw.out hTr0.size)
   clear hBr0 hWr0 hTr0
   by_cases hp : pos < (fBA f).size
   ·have hpl : pos < f.length := by rw [fBA_size] at hp; exact hp
    obtain ⟨c, hcm2, hcv, htk0, h128⟩ := letter_at hkf.out hp
    have hcf : c ∈ f := List.mem_of_mem_take (show c ∈ f.take (pos + 1) by rw [htk0]; simp)
    have hok := hZ (hfo.out c hcf).1
    have htk := hZ htk0
    have hnext : ∀ ty, (Instr.next (.pointer (some ⟨bi, 0, none⟩)) true ty).run Tryz.prog wr = _ := fun ty => Lib.run_next_ascii_at wr bi (fBA f) pos ty hit hp (by rw [hcv]; exact h128)
    generalize ((fBA f)[pos]'hp).toNat = k' at hnext hcv
    subst hcv
    have hNj := hZ (show (ws3 ++ (f.take pos).flatMap (fieldW ⟨(kn : Int), rq, it, qt, dy, dz, rk, lo, ln, parts, others⟩)).length ≤ 1002 + 16 * 4 from by have h1 := hN3.out; have h2 := fieldsW_len (a := ⟨(kn : Int), rq, it, qt, dy, dz, rk, lo, ln, parts, others⟩) (f.take pos) (fun d hd => hfo.out d (List.mem_of_mem_take hd)); have h3 := kindsL_len hkf.out; rw [List.length_take] at h2; rw [List.length_append]; omega)
    obtain ⟨wsj, hwsj0⟩ : ∃ wsj, wsj = ws3 ++ (f.take pos).flatMap (fieldW ⟨(kn : Int), rq, it, qt, dy, dz, rk, lo, ln, parts, others⟩) := ⟨_, rfl⟩
    rw [← hwsj0] at HW1 hNj
    have hwsj := hZ hwsj0
    clear hwsj0
    have HW2 := hZ (HW1.out.iter hit (pos + 1))
    have TT2 := hZ (TT1.out.iter (s := fBA f) (p := pos + 1) hbiw.out)
    have AA2 := hZ (AA1.out.turned (iter_turned wr bi (fBA f) (pos + 1)) hbib)
    have hit2 := hZ (Lib.iterAt_heap wr bi (fBA f) pos (pos + 1) hit)
    have t02 := hZ (TT2.out.all t0w.out hg)
    have hz2 := hZ (Nat.le_trans hzw.out TT2.out.size)
    clear hit AA1 HW1 TT1 t01 hz1 htk0 hcf
    generalize wr.iterAt bi (fBA f) (pos + 1) = W2 at hnext HW2 TT2 AA2 hit2 t02 hz2
    obtain ⟨x0, x1, x2, x3, x4, x5, x6, x7, x8, x9, x10⟩ := AA2.out.cells11
    unfold letters at hcm2
    simp only [List.mem_cons, List.not_mem_nil, or_false] at hcm2
    rcases hcm2 with rfl | rfl | rfl | rfl | rfl | rfl | rfl | rfl | rfl
    ·go_wp2_with fail
     refine (wr_word1 it HW2.out hz2.out (by have := hNj.out; (try simp only [List.length_append, List.length_cons, List.length_nil]); omega)).mono ?_
     rintro e W3 ⟨rfl, hw3, tw3⟩
     have HW3 := hZ hw3
     have TT3 := hZ (TT2.out.trans tw3)
     have t03 := hZ (tw3.all t02.out hg)
     have hz3 := hZ (Nat.le_trans hz2.out tw3.size)
     have AA3 := hZ (tw3.blk AA2.out (by decide) hbg)
     have hit3 := hZ (tw3.heap hit2.out hbig (fun _ _ e => by cases e))
     clear hw3 tw3 HW2 TT2 t02 hz2 AA2 x0 x1 x2 x3 x4 x5 x6 x7 x8 x9 x10 hit2
     obtain ⟨x0, x1, x2, x3, x4, x5, x6, x7, x8, x9, x10⟩ := AA3.out.cells11
     go_wp2_with fail
     have hmu2 := hZ (show W3.iterPos bi = pos + 1 by simp [World.iterPos, hit3.out])
     go_roundw
     case rel => exact ⟨pos + 1, hpl, hit3.out, AA3.out, by have h9 := HW3.out; show WrW _ _ _ (ws3 ++ (f.take (pos + 1)).flatMap (fieldW ⟨(kn : Int), rq, it, qt, dy, dz, rk, lo, ln, parts, others⟩)); rw [htk.out, flat_snoc, show fieldW ⟨(kn : Int), rq, it, qt, dy, dz, rk, lo, ln, parts, others⟩ 105 = [it] from rfl, ← List.append_assoc]; rw [hwsj.out] at h9; exact h9, TT3.out⟩
     case measure =>
      rw [hmu.out, hmu2.out]
      omega
    ·go_wp2_with fail
     refine (wr_num1 (qt) hv.out t02.out hg HW2.out hOk.out.qty (by have := hNj.out; (try simp only [List.length_append, List.length_cons, List.length_nil]); omega)).mono ?_
     rintro e W3 ⟨rfl, hw3, tw3⟩
     have HW3 := hZ hw3
     have TT3 := hZ (TT2.out.trans tw3)
     have t03 := hZ (tw3.all t02.out hg)
     have hz3 := hZ (Nat.le_trans hz2.out tw3.size)
     have AA3 := hZ (tw3.blk AA2.out (by decide) hbg)
     have hit3 := hZ (tw3.heap hit2.out hbig (fun _ _ e => by cases e))
     clear hw3 tw3 HW2 TT2 t02 hz2 AA2 x0 x1 x2 x3 x4 x5 x6 x7 x8 x9 x10 hit2
     obtain ⟨x0, x1, x2, x3, x4, x5, x6, x7, x8, x9, x10⟩ := AA3.out.cells11
     go_wp2_with fail
     have hmu2 := hZ (show W3.iterPos bi = pos + 1 by simp [World.iterPos, hit3.out])
     go_roundw
     case rel => exact ⟨pos + 1, hpl, hit3.out, AA3.out, by have h9 := HW3.out; show WrW _ _ _ (ws3 ++ (f.take (pos + 1)).flatMap (fieldW ⟨(kn : Int), rq, it, qt, dy, dz, rk, lo, ln, parts, others⟩)); rw [htk.out, flat_snoc, show fieldW ⟨(kn : Int), rq, it, qt, dy, dz, rk, lo, ln, parts, others⟩ 113 = [Lib.itoa qt] from rfl, ← List.append_assoc]; rw [hwsj.out] at h9; exact h9, TT3.out⟩
     case measure =>
      rw [hmu.out, hmu2.out]
      omega
    ·have hmm := @run_makeMap Tryz.prog
     have hmap0 := World.ownsMap_made W2 Tryz.prog 21 (plainElem (H := Unit) Tryz.prog 3)
     have tm0 := (Turned.refl (fun i => i = W2.heap.size) W2).alloc (.map #[] 0)
     have AM0 := hZ (AA2.out.turned tm0 (by have := AA2.out.lt; omega))
     obtain ⟨m0_0, m0_1, m0_2, m0_3, m0_4, m0_5, m0_6, m0_7, m0_8, m0_9, m0_10⟩ := AM0.out.cells11
     go_wp2_with (first | (refine wpList_insert_own _ rfl (.tmp 37) (.const (.int .i32 100)) (.tmp 39) 137 rfl 21 3 (int_keyed Tryz.underlying21) Tryz.underlying137 _ W2.heap.size 0 _ rfl hmap0 (by unfold maxLen; omega) _ _ (.int .i32 100) rfl rfl (keyOf_int_mk Tryz.underlying21 (by decide)) (.lit (.int .i64 dy)) [] (plainElem_int Tryz.underlying3 (wf_i64b hOk.out.day)) ?_; intro wm1 hmap1 hgm1; have tm1 := tm0.grown hgm1 (fun k e => by injection e with e; exact .inl e.symm); have AM1 := hZ (AM0.out.grown hgm1 (by intro e; injection e with e; have := AA2.out.lt; omega)); obtain ⟨m0_0, m0_1, m0_2, m0_3, m0_4, m0_5, m0_6, m0_7, m0_8, m0_9, m0_10⟩ := AM1.out.cells11) | (refine wpList_insert_own _ rfl (.tmp 37) (.const (.int .i32 108)) (.tmp 41) 137 rfl 21 3 (int_keyed Tryz.underlying21) Tryz.underlying137 _ W2.heap.size 1 _ rfl hmap1 (by unfold maxLen; omega) _ _ (.int .i32 108) rfl rfl (keyOf_int_mk Tryz.underlying21 (by decide)) (.lit (.int .i64 dz)) [] (plainElem_int Tryz.underlying3 (wf_i64b hOk.out.days)) ?_; intro wm2 hmap2 hgm2; have tm2 := tm1.grown hgm2 (fun k e => by injection e with e; exact .inl e.symm); have AM2 := hZ (AM1.out.grown hgm2 (by intro e; injection e with e; have := AA2.out.lt; omega)); obtain ⟨m1_0, m1_1, m1_2, m1_3, m1_4, m1_5, m1_6, m1_7, m1_8, m1_9, m1_10⟩ := AM2.out.cells11) | (refine wpList_insert_own _ rfl (.tmp 37) (.const (.int .i32 114)) (.tmp 43) 137 rfl 21 3 (int_keyed Tryz.underlying21) Tryz.underlying137 _ W2.heap.size 2 _ rfl hmap2 (by unfold maxLen; omega) _ _ (.int .i32 114) rfl rfl (keyOf_int_mk Tryz.underlying21 (by decide)) (.lit (.int .i64 rk)) [] (plainElem_int Tryz.underlying3 (wf_i64b hOk.out.rank)) ?_; intro wm3 hmap3 hgm3; have tm3 := tm2.grown hgm3 (fun k e => by injection e with e; exact .inl e.symm); have AM3 := hZ (AM2.out.grown hgm3 (by intro e; injection e with e; have := AA2.out.lt; omega)); obtain ⟨m2_0, m2_1, m2_2, m2_3, m2_4, m2_5, m2_6, m2_7, m2_8, m2_9, m2_10⟩ := AM3.out.cells11) | (refine wpList_insert_own _ rfl (.tmp 37) (.const (.int .i32 116)) (.tmp 45) 137 rfl 21 3 (int_keyed Tryz.underlying21) Tryz.underlying137 _ W2.heap.size 3 _ rfl hmap3 (by unfold maxLen; omega) _ _ (.int .i32 116) rfl rfl (keyOf_int_mk Tryz.underlying21 (by decide)) (.lit (.int .i64 lo)) [] (plainElem_int Tryz.underlying3 (wf_i64b hOk.out.lot)) ?_; intro wm4 hmap4 hgm4; have tm4 := tm3.grown hgm4 (fun k e => by injection e with e; exact .inl e.symm); have AM4 := hZ (AM3.out.grown hgm4 (by intro e; injection e with e; have := AA2.out.lt; omega)); obtain ⟨m3_0, m3_1, m3_2, m3_3, m3_4, m3_5, m3_6, m3_7, m3_8, m3_9, m3_10⟩ := AM4.out.cells11) | (refine wpList_insert_own _ rfl (.tmp 37) (.const (.int .i32 110)) (.tmp 47) 137 rfl 21 3 (int_keyed Tryz.underlying21) Tryz.underlying137 _ W2.heap.size 4 _ rfl hmap4 (by unfold maxLen; omega) _ _ (.int .i32 110) rfl rfl (keyOf_int_mk Tryz.underlying21 (by decide)) (.lit (.int .i64 ln)) [] (plainElem_int Tryz.underlying3 (wf_i64b hOk.out.line)) ?_; intro wm5 hmap5 hgm5; have tm5 := tm4.grown hgm5 (fun k e => by injection e with e; exact .inl e.symm); have AM5 := hZ (AM4.out.grown hgm5 (by intro e; injection e with e; have := AA2.out.lt; omega)); obtain ⟨m4_0, m4_1, m4_2, m4_3, m4_4, m4_5, m4_6, m4_7, m4_8, m4_9, m4_10⟩ := AM5.out.cells11) | (at_lookup; refine wpList_lookup_own_int _ rfl _ _ 137 rfl 21 3 .i64 (int_keyed Tryz.underlying21) Tryz.underlying137 Tryz.underlying3 (by kernel_rfl) W2.heap.size 5 _ rfl hmap5 _ (.int .i32 100) rfl (keyOf_int_mk Tryz.underlying21 (by decide)) ?_; intro cz hat hwc))
     obtain rfl : dy = cz := by
      have h9 := small_at dy dz rk lo ln 100 dy (by simp)
      unfold smallD at h9
      rw [h9] at hat
      injection hat with hat
      injection hat
     have tmf : Turned (fun _ => False) W2 wm5 := tm5.mono (fun i e => .inr (by subst e; exact Nat.le_refl _))
     have HW3 := hZ (HW2.out.fresh tmf)
     have TT3 := hZ (TT2.out.trans (WrT.of tmf))
     have t03 := hZ (t02.out.and_ tmf)
     have hz3 := hZ (Nat.le_trans hz2.out tmf.size)
     have AA3 := hZ AM5.out
     have hit3 := hZ ((tmf.block bi (heap_lt hit2.out) (fun e => e)).trans hit2.out)
     clear hmap0 hmap1 hmap2 hmap3 hmap4 hmap5 tm0 tm1 tm2 tm3 tm4 tm5 tmf HW2 TT2 t02 hz2 hit2 AM0 AM1 AM2 AM3 AM4 AM5 hgm1 hgm2 hgm3 hgm4 hgm5 hat hwc m0_0 m0_1 m0_2 m0_3 m0_4 m0_5 m0_6 m0_7 m0_8 m0_9 m0_10 m1_0 m1_1 m1_2 m1_3 m1_4 m1_5 m1_6 m1_7 m1_8 m1_9 m1_10 m2_0 m2_1 m2_2 m2_3 m2_4 m2_5 m2_6 m2_7 m2_8 m2_9 m2_10 m3_0 m3_1 m3_2 m3_3 m3_4 m3_5 m3_6 m3_7 m3_8 m3_9 m3_10 m4_0 m4_1 m4_2 m4_3 m4_4 m4_5 m4_6 m4_7 m4_8 m4_9 m4_10
     refine (wr_num1 (dy) hv.out t03.out hg HW3.out hOk.out.day (by have := hNj.out; (try simp only [List.length_append, List.length_cons, List.length_nil]); omega)).mono ?_
     rintro e W4 ⟨rfl, hw4, tw4⟩
     have HW4 := hZ hw4
     have TT4 := hZ (TT3.out.trans tw4)
     have t04 := hZ (tw4.all t03.out hg)
     have hz4 := hZ (Nat.le_trans hz3.out tw4.size)
     have AA4 := hZ (tw4.blk AA3.out (by decide) hbg)
     have hit4 := hZ (tw4.heap hit3.out hbig (fun _ _ e => by cases e))
     clear hw4 tw4 HW3 TT3 t03 hz3 AA3 x0 x1 x2 x3 x4 x5 x6 x7 x8 x9 x10 hit3
     obtain ⟨x0, x1, x2, x3, x4, x5, x6, x7, x8, x9, x10⟩ := AA4.out.cells11
     go_wp2_with fail
     have hmu2 := hZ (show W4.iterPos bi = pos + 1 by simp [World.iterPos, hit4.out])
     go_roundw
     case rel => exact ⟨pos + 1, hpl, hit4.out, AA4.out, by have h9 := HW4.out; show WrW _ _ _ (ws3 ++ (f.take (pos + 1)).flatMap (fieldW ⟨(kn : Int), rq, it, qt, dy, dz, rk, lo, ln, parts, others⟩)); rw [htk.out, flat_snoc, show fieldW ⟨(kn : Int), rq, it, qt, dy, dz, rk, lo, ln, parts, others⟩ 100 = [Lib.itoa dy] from rfl, ← List.append_assoc]; rw [hwsj.out] at h9; exact h9, TT4.out⟩
     case measure =>
      rw [hmu.out, hmu2.out]
      omega
    ·have hmm := @run_makeMap Tryz.prog
     have hmap0 := World.ownsMap_made W2 Tryz.prog 21 (plainElem (H := Unit) Tryz.prog 3)
     have tm0 := (Turned.refl (fun i => i = W2.heap.size) W2).alloc (.map #[] 0)
     have AM0 := hZ (AA2.out.turned tm0 (by have := AA2.out.lt; omega))
     obtain ⟨m0_0, m0_1, m0_2, m0_3, m0_4, m0_5, m0_6, m0_7, m0_8, m0_9, m0_10⟩ := AM0.out.cells11
     go_wp2_with (first | (refine wpList_insert_own _ rfl (.tmp 37) (.const (.int .i32 100)) (.tmp 39) 137 rfl 21 3 (int_keyed Tryz.underlying21) Tryz.underlying137 _ W2.heap.size 0 _ rfl hmap0 (by unfold maxLen; omega) _ _ (.int .i32 100) rfl rfl (keyOf_int_mk Tryz.underlying21 (by decide)) (.lit (.int .i64 dy)) [] (plainElem_int Tryz.underlying3 (wf_i64b hOk.out.day)) ?_; intro wm1 hmap1 hgm1; have tm1 := tm0.grown hgm1 (fun k e => by injection e with e; exact .inl e.symm); have AM1 := hZ (AM0.out.grown hgm1 (by intro e; injection e with e; have := AA2.out.lt; omega)); obtain ⟨m0_0, m0_1, m0_2, m0_3, m0_4, m0_5, m0_6, m0_7, m0_8, m0_9, m0_10⟩ := AM1.out.cells11) | (refine wpList_insert_own _ rfl (.tmp 37) (.const (.int .i32 108)) (.tmp 41) 137 rfl 21 3 (int_keyed Tryz.underlying21) Tryz.underlying137 _ W2.heap.size 1 _ rfl hmap1 (by unfold maxLen; omega) _ _ (.int .i32 108) rfl rfl (keyOf_int_mk Tryz.underlying21 (by decide)) (.lit (.int .i64 dz)) [] (plainElem_int Tryz.underlying3 (wf_i64b hOk.out.days)) ?_; intro wm2 hmap2 hgm2; have tm2 := tm1.grown hgm2 (fun k e => by injection e with e; exact .inl e.symm); have AM2 := hZ (AM1.out.grown hgm2 (by intro e; injection e with e; have := AA2.out.lt; omega)); obtain ⟨m1_0, m1_1, m1_2, m1_3, m1_4, m1_5, m1_6, m1_7, m1_8, m1_9, m1_10⟩ := AM2.out.cells11) | (refine wpList_insert_own _ rfl (.tmp 37) (.const (.int .i32 114)) (.tmp 43) 137 rfl 21 3 (int_keyed Tryz.underlying21) Tryz.underlying137 _ W2.heap.size 2 _ rfl hmap2 (by unfold maxLen; omega) _ _ (.int .i32 114) rfl rfl (keyOf_int_mk Tryz.underlying21 (by decide)) (.lit (.int .i64 rk)) [] (plainElem_int Tryz.underlying3 (wf_i64b hOk.out.rank)) ?_; intro wm3 hmap3 hgm3; have tm3 := tm2.grown hgm3 (fun k e => by injection e with e; exact .inl e.symm); have AM3 := hZ (AM2.out.grown hgm3 (by intro e; injection e with e; have := AA2.out.lt; omega)); obtain ⟨m2_0, m2_1, m2_2, m2_3, m2_4, m2_5, m2_6, m2_7, m2_8, m2_9, m2_10⟩ := AM3.out.cells11) | (refine wpList_insert_own _ rfl (.tmp 37) (.const (.int .i32 116)) (.tmp 45) 137 rfl 21 3 (int_keyed Tryz.underlying21) Tryz.underlying137 _ W2.heap.size 3 _ rfl hmap3 (by unfold maxLen; omega) _ _ (.int .i32 116) rfl rfl (keyOf_int_mk Tryz.underlying21 (by decide)) (.lit (.int .i64 lo)) [] (plainElem_int Tryz.underlying3 (wf_i64b hOk.out.lot)) ?_; intro wm4 hmap4 hgm4; have tm4 := tm3.grown hgm4 (fun k e => by injection e with e; exact .inl e.symm); have AM4 := hZ (AM3.out.grown hgm4 (by intro e; injection e with e; have := AA2.out.lt; omega)); obtain ⟨m3_0, m3_1, m3_2, m3_3, m3_4, m3_5, m3_6, m3_7, m3_8, m3_9, m3_10⟩ := AM4.out.cells11) | (refine wpList_insert_own _ rfl (.tmp 37) (.const (.int .i32 110)) (.tmp 47) 137 rfl 21 3 (int_keyed Tryz.underlying21) Tryz.underlying137 _ W2.heap.size 4 _ rfl hmap4 (by unfold maxLen; omega) _ _ (.int .i32 110) rfl rfl (keyOf_int_mk Tryz.underlying21 (by decide)) (.lit (.int .i64 ln)) [] (plainElem_int Tryz.underlying3 (wf_i64b hOk.out.line)) ?_; intro wm5 hmap5 hgm5; have tm5 := tm4.grown hgm5 (fun k e => by injection e with e; exact .inl e.symm); have AM5 := hZ (AM4.out.grown hgm5 (by intro e; injection e with e; have := AA2.out.lt; omega)); obtain ⟨m4_0, m4_1, m4_2, m4_3, m4_4, m4_5, m4_6, m4_7, m4_8, m4_9, m4_10⟩ := AM5.out.cells11) | (at_lookup; refine wpList_lookup_own_int _ rfl _ _ 137 rfl 21 3 .i64 (int_keyed Tryz.underlying21) Tryz.underlying137 Tryz.underlying3 (by kernel_rfl) W2.heap.size 5 _ rfl hmap5 _ (.int .i32 108) rfl (keyOf_int_mk Tryz.underlying21 (by decide)) ?_; intro cz hat hwc))
     obtain rfl : dz = cz := by
      have h9 := small_at dy dz rk lo ln 108 dz (by simp)
      unfold smallD at h9
      rw [h9] at hat
      injection hat with hat
      injection hat
     have tmf : Turned (fun _ => False) W2 wm5 := tm5.mono (fun i e => .inr (by subst e; exact Nat.le_refl _))
     have HW3 := hZ (HW2.out.fresh tmf)
     have TT3 := hZ (TT2.out.trans (WrT.of tmf))
     have t03 := hZ (t02.out.and_ tmf)
     have hz3 := hZ (Nat.le_trans hz2.out tmf.size)
     have AA3 := hZ AM5.out
     have hit3 := hZ ((tmf.block bi (heap_lt hit2.out) (fun e => e)).trans hit2.out)
     clear hmap0 hmap1 hmap2 hmap3 hmap4 hmap5 tm0 tm1 tm2 tm3 tm4 tm5 tmf HW2 TT2 t02 hz2 hit2 AM0 AM1 AM2 AM3 AM4 AM5 hgm1 hgm2 hgm3 hgm4 hgm5 hat hwc m0_0 m0_1 m0_2 m0_3 m0_4 m0_5 m0_6 m0_7 m0_8 m0_9 m0_10 m1_0 m1_1 m1_2 m1_3 m1_4 m1_5 m1_6 m1_7 m1_8 m1_9 m1_10 m2_0 m2_1 m2_2 m2_3 m2_4 m2_5 m2_6 m2_7 m2_8 m2_9 m2_10 m3_0 m3_1 m3_2 m3_3 m3_4 m3_5 m3_6 m3_7 m3_8 m3_9 m3_10 m4_0 m4_1 m4_2 m4_3 m4_4 m4_5 m4_6 m4_7 m4_8 m4_9 m4_10
     refine (wr_num1 (dz) hv.out t03.out hg HW3.out hOk.out.days (by have := hNj.out; (try simp only [List.length_append, List.length_cons, List.length_nil]); omega)).mono ?_
     rintro e W4 ⟨rfl, hw4, tw4⟩
     have HW4 := hZ hw4
     have TT4 := hZ (TT3.out.trans tw4)
     have t04 := hZ (tw4.all t03.out hg)
     have hz4 := hZ (Nat.le_trans hz3.out tw4.size)
     have AA4 := hZ (tw4.blk AA3.out (by decide) hbg)
     have hit4 := hZ (tw4.heap hit3.out hbig (fun _ _ e => by cases e))
     clear hw4 tw4 HW3 TT3 t03 hz3 AA3 x0 x1 x2 x3 x4 x5 x6 x7 x8 x9 x10 hit3
     obtain ⟨x0, x1, x2, x3, x4, x5, x6, x7, x8, x9, x10⟩ := AA4.out.cells11
     go_wp2_with fail
     have hmu2 := hZ (show W4.iterPos bi = pos + 1 by simp [World.iterPos, hit4.out])
     go_roundw
     case rel => exact ⟨pos + 1, hpl, hit4.out, AA4.out, by have h9 := HW4.out; show WrW _ _ _ (ws3 ++ (f.take (pos + 1)).flatMap (fieldW ⟨(kn : Int), rq, it, qt, dy, dz, rk, lo, ln, parts, others⟩)); rw [htk.out, flat_snoc, show fieldW ⟨(kn : Int), rq, it, qt, dy, dz, rk, lo, ln, parts, others⟩ 108 = [Lib.itoa dz] from rfl, ← List.append_assoc]; rw [hwsj.out] at h9; exact h9, TT4.out⟩
     case measure =>
      rw [hmu.out, hmu2.out]
      omega
    ·have hmm := @run_makeMap Tryz.prog
     have hmap0 := World.ownsMap_made W2 Tryz.prog 21 (plainElem (H := Unit) Tryz.prog 3)
     have tm0 := (Turned.refl (fun i => i = W2.heap.size) W2).alloc (.map #[] 0)
     have AM0 := hZ (AA2.out.turned tm0 (by have := AA2.out.lt; omega))
     obtain ⟨m0_0, m0_1, m0_2, m0_3, m0_4, m0_5, m0_6, m0_7, m0_8, m0_9, m0_10⟩ := AM0.out.cells11
     go_wp2_with (first | (refine wpList_insert_own _ rfl (.tmp 37) (.const (.int .i32 100)) (.tmp 39) 137 rfl 21 3 (int_keyed Tryz.underlying21) Tryz.underlying137 _ W2.heap.size 0 _ rfl hmap0 (by unfold maxLen; omega) _ _ (.int .i32 100) rfl rfl (keyOf_int_mk Tryz.underlying21 (by decide)) (.lit (.int .i64 dy)) [] (plainElem_int Tryz.underlying3 (wf_i64b hOk.out.day)) ?_; intro wm1 hmap1 hgm1; have tm1 := tm0.grown hgm1 (fun k e => by injection e with e; exact .inl e.symm); have AM1 := hZ (AM0.out.grown hgm1 (by intro e; injection e with e; have := AA2.out.lt; omega)); obtain ⟨m0_0, m0_1, m0_2, m0_3, m0_4, m0_5, m0_6, m0_7, m0_8, m0_9, m0_10⟩ := AM1.out.cells11) | (refine wpList_insert_own _ rfl (.tmp 37) (.const (.int .i32 108)) (.tmp 41) 137 rfl 21 3 (int_keyed Tryz.underlying21) Tryz.underlying137 _ W2.heap.size 1 _ rfl hmap1 (by unfold maxLen; omega) _ _ (.int .i32 108) rfl rfl (keyOf_int_mk Tryz.underlying21 (by decide)) (.lit (.int .i64 dz)) [] (plainElem_int Tryz.underlying3 (wf_i64b hOk.out.days)) ?_; intro wm2 hmap2 hgm2; have tm2 := tm1.grown hgm2 (fun k e => by injection e with e; exact .inl e.symm); have AM2 := hZ (AM1.out.grown hgm2 (by intro e; injection e with e; have := AA2.out.lt; omega)); obtain ⟨m1_0, m1_1, m1_2, m1_3, m1_4, m1_5, m1_6, m1_7, m1_8, m1_9, m1_10⟩ := AM2.out.cells11) | (refine wpList_insert_own _ rfl (.tmp 37) (.const (.int .i32 114)) (.tmp 43) 137 rfl 21 3 (int_keyed Tryz.underlying21) Tryz.underlying137 _ W2.heap.size 2 _ rfl hmap2 (by unfold maxLen; omega) _ _ (.int .i32 114) rfl rfl (keyOf_int_mk Tryz.underlying21 (by decide)) (.lit (.int .i64 rk)) [] (plainElem_int Tryz.underlying3 (wf_i64b hOk.out.rank)) ?_; intro wm3 hmap3 hgm3; have tm3 := tm2.grown hgm3 (fun k e => by injection e with e; exact .inl e.symm); have AM3 := hZ (AM2.out.grown hgm3 (by intro e; injection e with e; have := AA2.out.lt; omega)); obtain ⟨m2_0, m2_1, m2_2, m2_3, m2_4, m2_5, m2_6, m2_7, m2_8, m2_9, m2_10⟩ := AM3.out.cells11) | (refine wpList_insert_own _ rfl (.tmp 37) (.const (.int .i32 116)) (.tmp 45) 137 rfl 21 3 (int_keyed Tryz.underlying21) Tryz.underlying137 _ W2.heap.size 3 _ rfl hmap3 (by unfold maxLen; omega) _ _ (.int .i32 116) rfl rfl (keyOf_int_mk Tryz.underlying21 (by decide)) (.lit (.int .i64 lo)) [] (plainElem_int Tryz.underlying3 (wf_i64b hOk.out.lot)) ?_; intro wm4 hmap4 hgm4; have tm4 := tm3.grown hgm4 (fun k e => by injection e with e; exact .inl e.symm); have AM4 := hZ (AM3.out.grown hgm4 (by intro e; injection e with e; have := AA2.out.lt; omega)); obtain ⟨m3_0, m3_1, m3_2, m3_3, m3_4, m3_5, m3_6, m3_7, m3_8, m3_9, m3_10⟩ := AM4.out.cells11) | (refine wpList_insert_own _ rfl (.tmp 37) (.const (.int .i32 110)) (.tmp 47) 137 rfl 21 3 (int_keyed Tryz.underlying21) Tryz.underlying137 _ W2.heap.size 4 _ rfl hmap4 (by unfold maxLen; omega) _ _ (.int .i32 110) rfl rfl (keyOf_int_mk Tryz.underlying21 (by decide)) (.lit (.int .i64 ln)) [] (plainElem_int Tryz.underlying3 (wf_i64b hOk.out.line)) ?_; intro wm5 hmap5 hgm5; have tm5 := tm4.grown hgm5 (fun k e => by injection e with e; exact .inl e.symm); have AM5 := hZ (AM4.out.grown hgm5 (by intro e; injection e with e; have := AA2.out.lt; omega)); obtain ⟨m4_0, m4_1, m4_2, m4_3, m4_4, m4_5, m4_6, m4_7, m4_8, m4_9, m4_10⟩ := AM5.out.cells11) | (at_lookup; refine wpList_lookup_own_int _ rfl _ _ 137 rfl 21 3 .i64 (int_keyed Tryz.underlying21) Tryz.underlying137 Tryz.underlying3 (by kernel_rfl) W2.heap.size 5 _ rfl hmap5 _ (.int .i32 114) rfl (keyOf_int_mk Tryz.underlying21 (by decide)) ?_; intro cz hat hwc))
     obtain rfl : rk = cz := by
      have h9 := small_at dy dz rk lo ln 114 rk (by simp)
      unfold smallD at h9
      rw [h9] at hat
      injection hat with hat
      injection hat
     have tmf : Turned (fun _ => False) W2 wm5 := tm5.mono (fun i e => .inr (by subst e; exact Nat.le_refl _))
     have HW3 := hZ (HW2.out.fresh tmf)
     have TT3 := hZ (TT2.out.trans (WrT.of tmf))
     have t03 := hZ (t02.out.and_ tmf)
     have hz3 := hZ (Nat.le_trans hz2.out tmf.size)
     have AA3 := hZ AM5.out
     have hit3 := hZ ((tmf.block bi (heap_lt hit2.out) (fun e => e)).trans hit2.out)
     clear hmap0 hmap1 hmap2 hmap3 hmap4 hmap5 tm0 tm1 tm2 tm3 tm4 tm5 tmf HW2 TT2 t02 hz2 hit2 AM0 AM1 AM2 AM3 AM4 AM5 hgm1 hgm2 hgm3 hgm4 hgm5 hat hwc m0_0 m0_1 m0_2 m0_3 m0_4 m0_5 m0_6 m0_7 m0_8 m0_9 m0_10 m1_0 m1_1 m1_2 m1_3 m1_4 m1_5 m1_6 m1_7 m1_8 m1_9 m1_10 m2_0 m2_1 m2_2 m2_3 m2_4 m2_5 m2_6 m2_7 m2_8 m2_9 m2_10 m3_0 m3_1 m3_2 m3_3 m3_4 m3_5 m3_6 m3_7 m3_8 m3_9 m3_10 m4_0 m4_1 m4_2 m4_3 m4_4 m4_5 m4_6 m4_7 m4_8 m4_9 m4_10
     refine (wr_num1 (rk) hv.out t03.out hg HW3.out hOk.out.rank (by have := hNj.out; (try simp only [List.length_append, List.length_cons, List.length_nil]); omega)).mono ?_
     rintro e W4 ⟨rfl, hw4, tw4⟩
     have HW4 := hZ hw4
     have TT4 := hZ (TT3.out.trans tw4)
     have t04 := hZ (tw4.all t03.out hg)
     have hz4 := hZ (Nat.le_trans hz3.out tw4.size)
     have AA4 := hZ (tw4.blk AA3.out (by decide) hbg)
     have hit4 := hZ (tw4.heap hit3.out hbig (fun _ _ e => by cases e))
     clear hw4 tw4 HW3 TT3 t03 hz3 AA3 x0 x1 x2 x3 x4 x5 x6 x7 x8 x9 x10 hit3
     obtain ⟨x0, x1, x2, x3, x4, x5, x6, x7, x8, x9, x10⟩ := AA4.out.cells11
     go_wp2_with fail
     have hmu2 := hZ (show W4.iterPos bi = pos + 1 by simp [World.iterPos, hit4.out])
     go_roundw
     case rel => exact ⟨pos + 1, hpl, hit4.out, AA4.out, by have h9 := HW4.out; show WrW _ _ _ (ws3 ++ (f.take (pos + 1)).flatMap (fieldW ⟨(kn : Int), rq, it, qt, dy, dz, rk, lo, ln, parts, others⟩)); rw [htk.out, flat_snoc, show fieldW ⟨(kn : Int), rq, it, qt, dy, dz, rk, lo, ln, parts, others⟩ 114 = [Lib.itoa rk] from rfl, ← List.append_assoc]; rw [hwsj.out] at h9; exact h9, TT4.out⟩
     case measure =>
      rw [hmu.out, hmu2.out]
      omega
    ·have hmm := @run_makeMap Tryz.prog
     have hmap0 := World.ownsMap_made W2 Tryz.prog 21 (plainElem (H := Unit) Tryz.prog 3)
     have tm0 := (Turned.refl (fun i => i = W2.heap.size) W2).alloc (.map #[] 0)
     have AM0 := hZ (AA2.out.turned tm0 (by have := AA2.out.lt; omega))
     obtain ⟨m0_0, m0_1, m0_2, m0_3, m0_4, m0_5, m0_6, m0_7, m0_8, m0_9, m0_10⟩ := AM0.out.cells11
     go_wp2_with (first | (refine wpList_insert_own _ rfl (.tmp 37) (.const (.int .i32 100)) (.tmp 39) 137 rfl 21 3 (int_keyed Tryz.underlying21) Tryz.underlying137 _ W2.heap.size 0 _ rfl hmap0 (by unfold maxLen; omega) _ _ (.int .i32 100) rfl rfl (keyOf_int_mk Tryz.underlying21 (by decide)) (.lit (.int .i64 dy)) [] (plainElem_int Tryz.underlying3 (wf_i64b hOk.out.day)) ?_; intro wm1 hmap1 hgm1; have tm1 := tm0.grown hgm1 (fun k e => by injection e with e; exact .inl e.symm); have AM1 := hZ (AM0.out.grown hgm1 (by intro e; injection e with e; have := AA2.out.lt; omega)); obtain ⟨m0_0, m0_1, m0_2, m0_3, m0_4, m0_5, m0_6, m0_7, m0_8, m0_9, m0_10⟩ := AM1.out.cells11) | (refine wpList_insert_own _ rfl (.tmp 37) (.const (.int .i32 108)) (.tmp 41) 137 rfl 21 3 (int_keyed Tryz.underlying21) Tryz.underlying137 _ W2.heap.size 1 _ rfl hmap1 (by unfold maxLen; omega) _ _ (.int .i32 108) rfl rfl (keyOf_int_mk Tryz.underlying21 (by decide)) (.lit (.int .i64 dz)) [] (plainElem_int Tryz.underlying3 (wf_i64b hOk.out.days)) ?_; intro wm2 hmap2 hgm2; have tm2 := tm1.grown hgm2 (fun k e => by injection e with e; exact .inl e.symm); have AM2 := hZ (AM1.out.grown hgm2 (by intro e; injection e with e; have := AA2.out.lt; omega)); obtain ⟨m1_0, m1_1, m1_2, m1_3, m1_4, m1_5, m1_6, m1_7, m1_8, m1_9, m1_10⟩ := AM2.out.cells11) | (refine wpList_insert_own _ rfl (.tmp 37) (.const (.int .i32 114)) (.tmp 43) 137 rfl 21 3 (int_keyed Tryz.underlying21) Tryz.underlying137 _ W2.heap.size 2 _ rfl hmap2 (by unfold maxLen; omega) _ _ (.int .i32 114) rfl rfl (keyOf_int_mk Tryz.underlying21 (by decide)) (.lit (.int .i64 rk)) [] (plainElem_int Tryz.underlying3 (wf_i64b hOk.out.rank)) ?_; intro wm3 hmap3 hgm3; have tm3 := tm2.grown hgm3 (fun k e => by injection e with e; exact .inl e.symm); have AM3 := hZ (AM2.out.grown hgm3 (by intro e; injection e with e; have := AA2.out.lt; omega)); obtain ⟨m2_0, m2_1, m2_2, m2_3, m2_4, m2_5, m2_6, m2_7, m2_8, m2_9, m2_10⟩ := AM3.out.cells11) | (refine wpList_insert_own _ rfl (.tmp 37) (.const (.int .i32 116)) (.tmp 45) 137 rfl 21 3 (int_keyed Tryz.underlying21) Tryz.underlying137 _ W2.heap.size 3 _ rfl hmap3 (by unfold maxLen; omega) _ _ (.int .i32 116) rfl rfl (keyOf_int_mk Tryz.underlying21 (by decide)) (.lit (.int .i64 lo)) [] (plainElem_int Tryz.underlying3 (wf_i64b hOk.out.lot)) ?_; intro wm4 hmap4 hgm4; have tm4 := tm3.grown hgm4 (fun k e => by injection e with e; exact .inl e.symm); have AM4 := hZ (AM3.out.grown hgm4 (by intro e; injection e with e; have := AA2.out.lt; omega)); obtain ⟨m3_0, m3_1, m3_2, m3_3, m3_4, m3_5, m3_6, m3_7, m3_8, m3_9, m3_10⟩ := AM4.out.cells11) | (refine wpList_insert_own _ rfl (.tmp 37) (.const (.int .i32 110)) (.tmp 47) 137 rfl 21 3 (int_keyed Tryz.underlying21) Tryz.underlying137 _ W2.heap.size 4 _ rfl hmap4 (by unfold maxLen; omega) _ _ (.int .i32 110) rfl rfl (keyOf_int_mk Tryz.underlying21 (by decide)) (.lit (.int .i64 ln)) [] (plainElem_int Tryz.underlying3 (wf_i64b hOk.out.line)) ?_; intro wm5 hmap5 hgm5; have tm5 := tm4.grown hgm5 (fun k e => by injection e with e; exact .inl e.symm); have AM5 := hZ (AM4.out.grown hgm5 (by intro e; injection e with e; have := AA2.out.lt; omega)); obtain ⟨m4_0, m4_1, m4_2, m4_3, m4_4, m4_5, m4_6, m4_7, m4_8, m4_9, m4_10⟩ := AM5.out.cells11) | (at_lookup; refine wpList_lookup_own_int _ rfl _ _ 137 rfl 21 3 .i64 (int_keyed Tryz.underlying21) Tryz.underlying137 Tryz.underlying3 (by kernel_rfl) W2.heap.size 5 _ rfl hmap5 _ (.int .i32 116) rfl (keyOf_int_mk Tryz.underlying21 (by decide)) ?_; intro cz hat hwc))
     obtain rfl : lo = cz := by
      have h9 := small_at dy dz rk lo ln 116 lo (by simp)
      unfold smallD at h9
      rw [h9] at hat
      injection hat with hat
      injection hat
     have tmf : Turned (fun _ => False) W2 wm5 := tm5.mono (fun i e => .inr (by subst e; exact Nat.le_refl _))
     have HW3 := hZ (HW2.out.fresh tmf)
     have TT3 := hZ (TT2.out.trans (WrT.of tmf))
     have t03 := hZ (t02.out.and_ tmf)
     have hz3 := hZ (Nat.le_trans hz2.out tmf.size)
     have AA3 := hZ AM5.out
     have hit3 := hZ ((tmf.block bi (heap_lt hit2.out) (fun e => e)).trans hit2.out)
     clear hmap0 hmap1 hmap2 hmap3 hmap4 hmap5 tm0 tm1 tm2 tm3 tm4 tm5 tmf HW2 TT2 t02 hz2 hit2 AM0 AM1 AM2 AM3 AM4 AM5 hgm1 hgm2 hgm3 hgm4 hgm5 hat hwc m0_0 m0_1 m0_2 m0_3 m0_4 m0_5 m0_6 m0_7 m0_8 m0_9 m0_10 m1_0 m1_1 m1_2 m1_3 m1_4 m1_5 m1_6 m1_7 m1_8 m1_9 m1_10 m2_0 m2_1 m2_2 m2_3 m2_4 m2_5 m2_6 m2_7 m2_8 m2_9 m2_10 m3_0 m3_1 m3_2 m3_3 m3_4 m3_5 m3_6 m3_7 m3_8 m3_9 m3_10 m4_0 m4_1 m4_2 m4_3 m4_4 m4_5 m4_6 m4_7 m4_8 m4_9 m4_10
     refine (wr_num1 (lo) hv.out t03.out hg HW3.out hOk.out.lot (by have := hNj.out; (try simp only [List.length_append, List.length_cons, List.length_nil]); omega)).mono ?_
     rintro e W4 ⟨rfl, hw4, tw4⟩
     have HW4 := hZ hw4
     have TT4 := hZ (TT3.out.trans tw4)
     have t04 := hZ (tw4.all t03.out hg)
     have hz4 := hZ (Nat.le_trans hz3.out tw4.size)
     have AA4 := hZ (tw4.blk AA3.out (by decide) hbg)
     have hit4 := hZ (tw4.heap hit3.out hbig (fun _ _ e => by cases e))
     clear hw4 tw4 HW3 TT3 t03 hz3 AA3 x0 x1 x2 x3 x4 x5 x6 x7 x8 x9 x10 hit3
     obtain ⟨x0, x1, x2, x3, x4, x5, x6, x7, x8, x9, x10⟩ := AA4.out.cells11
     go_wp2_with fail
     have hmu2 := hZ (show W4.iterPos bi = pos + 1 by simp [World.iterPos, hit4.out])
     go_roundw
     case rel => exact ⟨pos + 1, hpl, hit4.out, AA4.out, by have h9 := HW4.out; show WrW _ _ _ (ws3 ++ (f.take (pos + 1)).flatMap (fieldW ⟨(kn : Int), rq, it, qt, dy, dz, rk, lo, ln, parts, others⟩)); rw [htk.out, flat_snoc, show fieldW ⟨(kn : Int), rq, it, qt, dy, dz, rk, lo, ln, parts, others⟩ 116 = [Lib.itoa lo] from rfl, ← List.append_assoc]; rw [hwsj.out] at h9; exact h9, TT4.out⟩
     case measure =>
      rw [hmu.out, hmu2.out]
      omega
    ·have hmm := @run_makeMap Tryz.prog
     have hmap0 := World.ownsMap_made W2 Tryz.prog 21 (plainElem (H := Unit) Tryz.prog 3)
     have tm0 := (Turned.refl (fun i => i = W2.heap.size) W2).alloc (.map #[] 0)
     have AM0 := hZ (AA2.out.turned tm0 (by have := AA2.out.lt; omega))
     obtain ⟨m0_0, m0_1, m0_2, m0_3, m0_4, m0_5, m0_6, m0_7, m0_8, m0_9, m0_10⟩ := AM0.out.cells11
     go_wp2_with (first | (refine wpList_insert_own _ rfl (.tmp 37) (.const (.int .i32 100)) (.tmp 39) 137 rfl 21 3 (int_keyed Tryz.underlying21) Tryz.underlying137 _ W2.heap.size 0 _ rfl hmap0 (by unfold maxLen; omega) _ _ (.int .i32 100) rfl rfl (keyOf_int_mk Tryz.underlying21 (by decide)) (.lit (.int .i64 dy)) [] (plainElem_int Tryz.underlying3 (wf_i64b hOk.out.day)) ?_; intro wm1 hmap1 hgm1; have tm1 := tm0.grown hgm1 (fun k e => by injection e with e; exact .inl e.symm); have AM1 := hZ (AM0.out.grown hgm1 (by intro e; injection e with e; have := AA2.out.lt; omega)); obtain ⟨m0_0, m0_1, m0_2, m0_3, m0_4, m0_5, m0_6, m0_7, m0_8, m0_9, m0_10⟩ := AM1.out.cells11) | (refine wpList_insert_own _ rfl (.tmp 37) (.const (.int .i32 108)) (.tmp 41) 137 rfl 21 3 (int_keyed Tryz.underlying21) Tryz.underlying137 _ W2.heap.size 1 _ rfl hmap1 (by unfold maxLen; omega) _ _ (.int .i32 108) rfl rfl (keyOf_int_mk Tryz.underlying21 (by decide)) (.lit (.int .i64 dz)) [] (plainElem_int Tryz.underlying3 (wf_i64b hOk.out.days)) ?_; intro wm2 hmap2 hgm2; have tm2 := tm1.grown hgm2 (fun k e => by injection e with e; exact .inl e.symm); have AM2 := hZ (AM1.out.grown hgm2 (by intro e; injection e with e; have := AA2.out.lt; omega)); obtain ⟨m1_0, m1_1, m1_2, m1_3, m1_4, m1_5, m1_6, m1_7, m1_8, m1_9, m1_10⟩ := AM2.out.cells11) | (refine wpList_insert_own _ rfl (.tmp 37) (.const (.int .i32 114)) (.tmp 43) 137 rfl 21 3 (int_keyed Tryz.underlying21) Tryz.underlying137 _ W2.heap.size 2 _ rfl hmap2 (by unfold maxLen; omega) _ _ (.int .i32 114) rfl rfl (keyOf_int_mk Tryz.underlying21 (by decide)) (.lit (.int .i64 rk)) [] (plainElem_int Tryz.underlying3 (wf_i64b hOk.out.rank)) ?_; intro wm3 hmap3 hgm3; have tm3 := tm2.grown hgm3 (fun k e => by injection e with e; exact .inl e.symm); have AM3 := hZ (AM2.out.grown hgm3 (by intro e; injection e with e; have := AA2.out.lt; omega)); obtain ⟨m2_0, m2_1, m2_2, m2_3, m2_4, m2_5, m2_6, m2_7, m2_8, m2_9, m2_10⟩ := AM3.out.cells11) | (refine wpList_insert_own _ rfl (.tmp 37) (.const (.int .i32 116)) (.tmp 45) 137 rfl 21 3 (int_keyed Tryz.underlying21) Tryz.underlying137 _ W2.heap.size 3 _ rfl hmap3 (by unfold maxLen; omega) _ _ (.int .i32 116) rfl rfl (keyOf_int_mk Tryz.underlying21 (by decide)) (.lit (.int .i64 lo)) [] (plainElem_int Tryz.underlying3 (wf_i64b hOk.out.lot)) ?_; intro wm4 hmap4 hgm4; have tm4 := tm3.grown hgm4 (fun k e => by injection e with e; exact .inl e.symm); have AM4 := hZ (AM3.out.grown hgm4 (by intro e; injection e with e; have := AA2.out.lt; omega)); obtain ⟨m3_0, m3_1, m3_2, m3_3, m3_4, m3_5, m3_6, m3_7, m3_8, m3_9, m3_10⟩ := AM4.out.cells11) | (refine wpList_insert_own _ rfl (.tmp 37) (.const (.int .i32 110)) (.tmp 47) 137 rfl 21 3 (int_keyed Tryz.underlying21) Tryz.underlying137 _ W2.heap.size 4 _ rfl hmap4 (by unfold maxLen; omega) _ _ (.int .i32 110) rfl rfl (keyOf_int_mk Tryz.underlying21 (by decide)) (.lit (.int .i64 ln)) [] (plainElem_int Tryz.underlying3 (wf_i64b hOk.out.line)) ?_; intro wm5 hmap5 hgm5; have tm5 := tm4.grown hgm5 (fun k e => by injection e with e; exact .inl e.symm); have AM5 := hZ (AM4.out.grown hgm5 (by intro e; injection e with e; have := AA2.out.lt; omega)); obtain ⟨m4_0, m4_1, m4_2, m4_3, m4_4, m4_5, m4_6, m4_7, m4_8, m4_9, m4_10⟩ := AM5.out.cells11) | (at_lookup; refine wpList_lookup_own_int _ rfl _ _ 137 rfl 21 3 .i64 (int_keyed Tryz.underlying21) Tryz.underlying137 Tryz.underlying3 (by kernel_rfl) W2.heap.size 5 _ rfl hmap5 _ (.int .i32 110) rfl (keyOf_int_mk Tryz.underlying21 (by decide)) ?_; intro cz hat hwc))
     obtain rfl : ln = cz := by
      have h9 := small_at dy dz rk lo ln 110 ln (by simp)
      unfold smallD at h9
      rw [h9] at hat
      injection hat with hat
      injection hat
     have tmf : Turned (fun _ => False) W2 wm5 := tm5.mono (fun i e => .inr (by subst e; exact Nat.le_refl _))
     have HW3 := hZ (HW2.out.fresh tmf)
     have TT3 := hZ (TT2.out.trans (WrT.of tmf))
     have t03 := hZ (t02.out.and_ tmf)
     have hz3 := hZ (Nat.le_trans hz2.out tmf.size)
     have AA3 := hZ AM5.out
     have hit3 := hZ ((tmf.block bi (heap_lt hit2.out) (fun e => e)).trans hit2.out)
     clear hmap0 hmap1 hmap2 hmap3 hmap4 hmap5 tm0 tm1 tm2 tm3 tm4 tm5 tmf HW2 TT2 t02 hz2 hit2 AM0 AM1 AM2 AM3 AM4 AM5 hgm1 hgm2 hgm3 hgm4 hgm5 hat hwc m0_0 m0_1 m0_2 m0_3 m0_4 m0_5 m0_6 m0_7 m0_8 m0_9 m0_10 m1_0 m1_1 m1_2 m1_3 m1_4 m1_5 m1_6 m1_7 m1_8 m1_9 m1_10 m2_0 m2_1 m2_2 m2_3 m2_4 m2_5 m2_6 m2_7 m2_8 m2_9 m2_10 m3_0 m3_1 m3_2 m3_3 m3_4 m3_5 m3_6 m3_7 m3_8 m3_9 m3_10 m4_0 m4_1 m4_2 m4_3 m4_4 m4_5 m4_6 m4_7 m4_8 m4_9 m4_10
     refine (wr_num1 (ln) hv.out t03.out hg HW3.out hOk.out.line (by have := hNj.out; (try simp only [List.length_append, List.length_cons, List.length_nil]); omega)).mono ?_
     rintro e W4 ⟨rfl, hw4, tw4⟩
     have HW4 := hZ hw4
     have TT4 := hZ (TT3.out.trans tw4)
     have t04 := hZ (tw4.all t03.out hg)
     have hz4 := hZ (Nat.le_trans hz3.out tw4.size)
     have AA4 := hZ (tw4.blk AA3.out (by decide) hbg)
     have hit4 := hZ (tw4.heap hit3.out hbig (fun _ _ e => by cases e))
     clear hw4 tw4 HW3 TT3 t03 hz3 AA3 x0 x1 x2 x3 x4 x5 x6 x7 x8 x9 x10 hit3
     obtain ⟨x0, x1, x2, x3, x4, x5, x6, x7, x8, x9, x10⟩ := AA4.out.cells11
     go_wp2_with fail
     have hmu2 := hZ (show W4.iterPos bi = pos + 1 by simp [World.iterPos, hit4.out])
     go_roundw
     case rel => exact ⟨pos + 1, hpl, hit4.out, AA4.out, by have h9 := HW4.out; show WrW _ _ _ (ws3 ++ (f.take (pos + 1)).flatMap (fieldW ⟨(kn : Int), rq, it, qt, dy, dz, rk, lo, ln, parts, others⟩)); rw [htk.out, flat_snoc, show fieldW ⟨(kn : Int), rq, it, qt, dy, dz, rk, lo, ln, parts, others⟩ 110 = [Lib.itoa ln] from rfl, ← List.append_assoc]; rw [hwsj.out] at h9; exact h9, TT4.out⟩
     case measure =>
      rw [hmu.out, hmu2.out]
      omega
    ·have hpb := hZ (partsB_mem (show partsB parts = true from hok.out))
     have hPl := hZ (show parts.length = Pn from hI.out.parts.len)
     go_wp2_with fail
     have hst2 := hZ (show PkRel w0.heap.size g bt bi Pn #[.int .u8 kn, .int .i64 rq, .string ⟨it.toArray⟩, .int .i64 qt, .int .i64 dy, .int .i64 dz, .int .i64 rk, .int .i64 lo, .int .i64 ln, .slice PA Pn Pc, .slice QA On Oc] f (pos + 1) (fun j => wsj ++ (parts.take j).flatMap (fun p => [p.1, Lib.itoa p.2])) w (.int .i64 0) W2 from ⟨0, Nat.zero_le _, rfl, hit2.out, AA2.out, by simpa using HW2.out, TT2.out⟩)
     clear AA2 HW2 TT2 t02 hz2 hit2 x0 x1 x2 x3 x4 x5 x6 x7 x8 x9 x10
     have hPx := hZ (show Pn ≤ 8 from by have := hpb.out.2.1; have := hPl.out; omega)
     go_loopw [74] (fun i wr => PkRel w0.heap.size g bt bi Pn #[.int .u8 kn, .int .i64 rq, .string ⟨it.toArray⟩, .int .i64 qt, .int .i64 dy, .int .i64 dz, .int .i64 rk, .int .i64 lo, .int .i64 ln, .slice PA Pn Pc, .slice QA On Oc] f (pos + 1) (fun j => wsj ++ (parts.take j).flatMap (fun p => [p.1, Lib.itoa p.2])) w i wr) (fun i _ => Pn - (intOf i).toNat)
     case atStart => exact hst2.out
     case round =>
      obtain ⟨j, hj, rfl, hit0, hBr0, hWr0, hTr0⟩ := hrel
      have hit2 := hZ hit0
      clear hit0 hst2
      have AA2 := hZ hBr0
      have HW2 := hZ (show WrW wr w0.heap.size g (wsj ++ (parts.take j).flatMap (fun p => [p.1, Lib.itoa p.2])) from hWr0)
      have TT2 := hZ hTr0
      have t02 := hZ (hTr0.all t0w.out hg)
      have hz2 := hZ (Nat.le_trans hzw.out hTr0.size)
      clear hBr0 hWr0 hTr0
      by_cases hlt : j < Pn
      ·have hji : (j : Int) < (Pn : Int) := by omega
       obtain ⟨bl, off, hA, hc⟩ := (hI.out.parts.fresh t02.out).cells (show 0 < Pn by omega)
       simp only at hA
       subst hA
       obtain ⟨q0, q1⟩ := hc j hlt
       unfold strV at q0
       have hjl := hZ (show j < parts.length by rw [hPl.out]; exact hlt)
       have hm := hZ (flat_take (fun p : List UInt8 × Int => [p.1, Lib.itoa p.2]) parts ([], 0) j hjl.out)
       have hu := (hOk.out.parts (parts.getD j ([], 0)) (by rw [List.getD_eq_getElem?_getD, List.getElem?_eq_getElem hjl.out]; exact List.getElem_mem hjl.out)).2
       have hNp := hZ (show (wsj ++ (parts.take j).flatMap (fun p => [p.1, Lib.itoa p.2])).length ≤ 1002 + 16 * 4 + 16 from by have h1 := hNj.out; have h2 := flatLen (fun p : List UInt8 × Int => [p.1, Lib.itoa p.2]) 2 (fun _ => rfl) (parts.take j); have h3 := hPx.out; rw [List.length_append, h2, List.length_take]; omega)
       have hit : itemAt parts j = (parts.getD j ([], 0)).1 := rfl
       have hqt : qtyAt parts j = (parts.getD j ([], 0)).2 := rfl
       rw [hit] at q0
       rw [hqt] at q1
       clear hit hqt hc
       generalize parts.getD j ([], 0) = U at *
       obtain ⟨u0, u1⟩ := U
       simp only at q0 q1 hu
       obtain ⟨wsp, hwsp0⟩ : ∃ wsp, wsp = wsj ++ (parts.take j).flatMap (fun p => [p.1, Lib.itoa p.2]) := ⟨_, rfl⟩
       rw [← hwsp0] at HW2 hNp
       have hwsp := hZ hwsp0
       clear hwsp0
       go_upto_region 20 with fail
       have tb := (Turned.refl (fun _ => False) wr).alloc (.cells #[.string ⟨u0.toArray⟩, .int .i64 u1] 62)
       have BL3 := hZ (Blk.new wr 62 #[.string ⟨u0.toArray⟩, .int .i64 u1])
       have HW3 := hZ (HW2.out.fresh tb)
       have TT3 := hZ (TT2.out.trans (WrT.of tb))
       have t03 := hZ (t02.out.and_ tb)
       have hz3 := hZ (Nat.le_trans hz2.out tb.size)
       have AA3 := hZ (AA2.out.turned tb (fun e => e))
       have hit3 := hZ ((tb.block bi (heap_lt hit2.out) (fun e => e)).trans hit2.out)
       have hlg : wr.heap.size ≠ g := by have := HW2.out.lt; omega
       obtain ⟨W3, hW3⟩ : ∃ W3, W3 = wr.alloc (.cells #[.string ⟨u0.toArray⟩, .int .i64 u1] 62) := ⟨_, rfl⟩
       rw [← hW3] at BL3 HW3 TT3 t03 hz3 AA3 hit3 ⊢
       clear hW3
       obtain ⟨bo, hbo⟩ : ∃ bo, wr.heap.size = bo := ⟨_, rfl⟩
       rw [hbo] at BL3 hlg ⊢
       clear hbo HW2 TT2 t02 hz2 AA2 hit2 tb q0 q1
       obtain ⟨p0, p1⟩ := BL3.out.cells2
       go_wp2_with fail
       refine (wr_word1 u0 HW3.out hz3.out (by have := hNp.out; (try simp only [List.length_append, List.length_cons, List.length_nil]); omega)).mono ?_
       rintro e W4 ⟨rfl, hw4, tw4⟩
       have HW4 := hZ hw4
       have TT4 := hZ (TT3.out.trans tw4)
       have t04 := hZ (tw4.all t03.out hg)
       have hz4 := hZ (Nat.le_trans hz3.out tw4.size)
       have AA4 := hZ (tw4.blk AA3.out (by decide) hbg)
       have BL4 := hZ (tw4.blk BL3.out (by decide) hlg)
       have hit4 := hZ (tw4.heap hit3.out hbig (fun _ _ e => by cases e))
       clear hw4 tw4 HW3 TT3 t03 hz3 AA3 BL3 p0 p1 hit3
       obtain ⟨p0, p1⟩ := BL4.out.cells2
       go_wp2_with fail
       refine (wr_num1 (u1) hv.out t04.out hg HW4.out hu (by have := hNp.out; (try simp only [List.length_append, List.length_cons, List.length_nil]); omega)).mono ?_
       rintro e W5 ⟨rfl, hw5, tw5⟩
       have HW5 := hZ hw5
       have TT5 := hZ (TT4.out.trans tw5)
       have t05 := hZ (tw5.all t04.out hg)
       have hz5 := hZ (Nat.le_trans hz4.out tw5.size)
       have AA5 := hZ (tw5.blk AA4.out (by decide) hbg)
       have BL5 := hZ (tw5.blk BL4.out (by decide) hlg)
       have hit5 := hZ (tw5.heap hit4.out hbig (fun _ _ e => by cases e))
       clear hw5 tw5 HW4 TT4 t04 hz4 AA4 BL4 p0 p1 hit4
       obtain ⟨p0, p1⟩ := BL5.out.cells2
       go_wp2_with fail
       go_roundw
       case rel => exact ⟨j + 1, hlt, by go_num, hit5.out, AA5.out, by have h9 := HW5.out; rw [List.append_assoc] at h9; show WrW _ _ _ (wsj ++ (parts.take (j + 1)).flatMap (fun p => [p.1, Lib.itoa p.2])); rw [hm.out, ← List.append_assoc]; rw [hwsp.out] at h9; exact h9, TT5.out⟩
       case measure => simp [intOf] <;> omega
      ·have hge : (Pn : Int) ≤ (j : Int) := by omega
       have HW3 := hZ (show WrW wr w0.heap.size g (wsj ++ parts.flatMap (fun p => [p.1, Lib.itoa p.2])) from by have h9 := HW2.out; rw [List.take_of_length_le (by rw [hPl.out]; omega)] at h9; exact h9)
       go_wp2_with fail
       have hmu2 := hZ (show wr.iterPos bi = pos + 1 by simp [World.iterPos, hit2.out])
       go_roundw
       case rel => exact ⟨pos + 1, hpl, hit2.out, AA2.out, by have h9 := HW3.out; show WrW _ _ _ (ws3 ++ (f.take (pos + 1)).flatMap (fieldW ⟨(kn : Int), rq, it, qt, dy, dz, rk, lo, ln, parts, others⟩)); rw [htk.out, flat_snoc, show fieldW ⟨(kn : Int), rq, it, qt, dy, dz, rk, lo, ln, parts, others⟩ 112 = parts.flatMap (fun p => [p.1, Lib.itoa p.2]) from rfl, ← List.append_assoc]; rw [hwsj.out] at h9; exact h9, TT2.out⟩
       case measure =>
        rw [hmu.out, hmu2.out]
        omega
    ·have hQ := hZ (hI.out.others.fresh t02.out)
     by_cases hon : On = 0
     ·have ho0 := hZ (show others = [] from List.length_eq_zero_iff.1 (by rw [hI.out.others.len]; exact hon))
      have hnl := hZ (hI.out.others.nil_)
      obtain rfl : On = 0 := hon
      go_wp2_with fail
      refine (wr_word0 w0.heap.size g wsj QA Oc W2 HW2.out (fun e => (hnl.out e).2) (by have := hN3.out; have h8 := hwsj.out; rw [h8, hws3h.out]; simp only [List.length_append, List.length_cons]; omega)).mono ?_
      rintro e W3 ⟨rfl, hw3, tw3⟩
      have HW3 := hZ hw3
      have TT3 := hZ (TT2.out.trans tw3)
      have t03 := hZ (tw3.all t02.out hg)
      have hz3 := hZ (Nat.le_trans hz2.out tw3.size)
      have AA3 := hZ (tw3.blk AA2.out (by decide) hbg)
      have hit3 := hZ (tw3.heap hit2.out hbig (fun _ _ e => by cases e))
      clear hw3 tw3 HW2 TT2 t02 hz2 AA2 x0 x1 x2 x3 x4 x5 x6 x7 x8 x9 x10 hit2
      obtain ⟨x0, x1, x2, x3, x4, x5, x6, x7, x8, x9, x10⟩ := AA3.out.cells11
      go_wp2_with fail
      have hmu2 := hZ (show W3.iterPos bi = pos + 1 by simp [World.iterPos, hit3.out])
      go_roundw
      case rel => exact ⟨pos + 1, hpl, hit3.out, AA3.out, by have h9 := HW3.out; show WrW _ _ _ (ws3 ++ (f.take (pos + 1)).flatMap (fieldW ⟨(kn : Int), rq, it, qt, dy, dz, rk, lo, ln, parts, others⟩)); rw [htk.out, flat_snoc, show fieldW ⟨(kn : Int), rq, it, qt, dy, dz, rk, lo, ln, parts, others⟩ 111 = [] from ho0.out, List.append_nil]; rw [hwsj.out] at h9; exact h9, TT3.out⟩
      case measure =>
       rw [hmu.out, hmu2.out]
       omega
     ·go_wp2_with fail
      refine (wr_word w0.heap.size g wsj others ⟨QA, On, Oc⟩ W2 HW2.out hQ.out hz2.out (by have := hI.out.others.len; simp only at this; omega) (by have := hNj.out; have h8 := (othersB_mem (show othersB others it = true from hok.out)).1; omega)).mono ?_
      rintro e W3 ⟨rfl, hw3, tw3⟩
      have HW3 := hZ hw3
      have TT3 := hZ (TT2.out.trans tw3)
      have t03 := hZ (tw3.all t02.out hg)
      have hz3 := hZ (Nat.le_trans hz2.out tw3.size)
      have AA3 := hZ (tw3.blk AA2.out (by decide) hbg)
      have hit3 := hZ (tw3.heap hit2.out hbig (fun _ _ e => by cases e))
      clear hw3 tw3 HW2 TT2 t02 hz2 AA2 x0 x1 x2 x3 x4 x5 x6 x7 x8 x9 x10 hit2
      obtain ⟨x0, x1, x2, x3, x4, x5, x6, x7, x8, x9, x10⟩ := AA3.out.cells11
      go_wp2_with fail
      have hmu2 := hZ (show W3.iterPos bi = pos + 1 by simp [World.iterPos, hit3.out])
      go_roundw
      case rel => exact ⟨pos + 1, hpl, hit3.out, AA3.out, by have h9 := HW3.out; show WrW _ _ _ (ws3 ++ (f.take (pos + 1)).flatMap (fieldW ⟨(kn : Int), rq, it, qt, dy, dz, rk, lo, ln, parts, others⟩)); rw [htk.out, flat_snoc, show fieldW ⟨(kn : Int), rq, it, qt, dy, dz, rk, lo, ln, parts, others⟩ 111 = others from rfl, ← List.append_assoc]; rw [hwsj.out] at h9; exact h9, TT3.out⟩
      case measure =>
       rw [hmu.out, hmu2.out]
       omega
   ·have hpe : pos = f.length := by rw [fBA_size] at hp; omega
    subst hpe
    have hnext : ∀ ty, (Instr.next (.pointer (some ⟨bi, 0, none⟩)) true ty).run Tryz.prog wr = _ := fun ty => Lib.run_next_end_at wr bi (fBA f) f.length ty hit hp
    rw [List.take_length] at HW1
    go_wp2_with fail
    go_end0
    have e : ws ++ asksW ⟨(kn : Int), rq, it, qt, dy, dz, rk, lo, ln, parts, others⟩ = ws3 ++ f.flatMap (fieldW ⟨(kn : Int), rq, it, qt, dy, dz, rk, lo, ln, parts, others⟩) := by
     unfold asksW
     rw [if_pos hr'.out, hff.out, hws3h.out, hvt.out]
     simp
    rw [e]
    exact ⟨rfl, HW1.out, TT1.out⟩
end Go.Proofs.YtglojnmcbochaaaGreatDoor

