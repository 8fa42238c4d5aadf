/-
 The document's command of words: the walk. No condition but that there are at most 1000000 words.
-/
import Derived.Test.YtglojnmcbochaaaGreatDoorURfQh
namespace Go.Proofs.YtglojnmcbochaaaGreatDoor
open Go.RowKit Go.Maps
set_option linter.unusedVariables false
set_option linter.unusedSimpArgs false

theorem I64_0 : I64 0 := by unfold I64; decide
theorem ite_byte (p : Prop) [Decidable p] (a b : Int) (ha : isByte a) (hb : isByte b) : isByte (if p then a else b) := by
 by_cases h : p
 ·rw [if_pos h]; exact ha
 ·rw [if_neg h]; exact hb
theorem kindW_byte (w : List UInt8) : isByte (kindW w) := by
 unfold kindW
 iterate 15 (refine ite_byte _ _ _ (by unfold isByte; decide) ?_)
 unfold isByte
 decide
def finW (x : AskV) : WS → Option AskV
 | [] => if rightA x then some x else none
 | _ => none
theorem askW_bad {w v : List UInt8} {ws : WS} (hf : ((fieldsK (kindW w)).getD []).foldl optF (some (⟨kindW w, (numL v).getD 0, [], 0, 0, 0, 0, 0, 0, [], []⟩, ws)) = none) : askW (w :: v :: ws) = none := by
 show askC2 w v ws = none
 unfold askC2
 cases hk : fieldsK (kindW w) with
 | none => rfl
 | some f =>
  rw [hk] at hf
  simp only [Option.getD_some] at hf
  cases hn : numL v with
  | none => rfl
  | some r =>
   rw [hn] at hf
   show askE (f.foldl optF (some (⟨kindW w, r, [], 0, 0, 0, 0, 0, 0, [], []⟩, ws))) = none
   simp only [Option.getD_some] at hf
   rw [hf]
   rfl
theorem askW_nonum {w v : List UInt8} {ws : WS} (h : (numL v).isSome = false) : askW (w :: v :: ws) = none := by
 show askC2 w v ws = none
 unfold askC2
 cases fieldsK (kindW w) with
 | none => rfl
 | some f =>
  cases hn : numL v with
  | none => rfl
  | some r => rw [hn] at h; cases h
theorem askW_good {w v : List UInt8} {ws vs : WS} {x : AskV} (hs : (numL v).isSome = true) (hf : ((fieldsK (kindW w)).getD []).foldl optF (some (⟨kindW w, (numL v).getD 0, [], 0, 0, 0, 0, 0, 0, [], []⟩, ws)) = some (x, vs)) : askW (w :: v :: ws) = finW x vs := by
 show askC2 w v ws = _
 unfold askC2
 cases hk : fieldsK (kindW w) with
 | none =>
  rw [hk] at hf
  simp only [Option.getD_none, List.foldl_nil, Option.some.injEq, Prod.mk.injEq] at hf
  obtain ⟨rfl, rfl⟩ := hf
  have e : rightA ⟨kindW w, (numL v).getD 0, [], 0, 0, 0, 0, 0, 0, [], []⟩ = false := by
   unfold rightA
   simp only
   rw [hk]
  cases ws with
  | nil =>
   show none = (if _ then _ else _)
   rw [e]
   rfl
  | cons a t => rfl
 | some f =>
  rw [hk] at hf
  simp only [Option.getD_some] at hf
  cases hn : numL v with
  | none => rw [hn] at hs; cases hs
  | some r =>
   rw [hn] at hf
   simp only [Option.getD_some] at hf
   show askE (f.foldl optF (some (⟨kindW w, r, [], 0, 0, 0, 0, 0, 0, [], []⟩, ws))) = _
   rw [hf]
   cases vs <;> rfl
set_option maxRecDepth 100000 in
set_option maxHeartbeats 16000000 in
theorem rask_main (b off n c : Nat) (w0 v0 : List UInt8) (ws0 : WS) (w : World) (h : SlT w ⟨some ⟨b, off, none⟩, n, c⟩ (w0 :: v0 :: ws0)) (hm : ∀ x ∈ w0 :: v0 :: ws0, lenOk x) (hN : ws0.length + 2 ≤ 1000000) : Calls Tryz.prog 69 #[.slice (some ⟨b, off, none⟩) n c] w (RqPost (w0 :: v0 :: ws0) w) := by
 have mixed : Tryz.prog.follows .mixedOrders = true := by kernel_rfl
 have hn2 : n = ws0.length + 2 := by have := h.len; simp only [List.length_cons] at this; omega
 have hcell : ∀ i, i < n → w.cell? ⟨b, off + i, none⟩ = some (strV ((w0 :: v0 :: ws0).getD i [])) := by
  obtain ⟨b2, off2, hA, hc⟩ := h.cells (show 0 < n by omega)
  simp only at hA
  injection hA with hA
  injection hA with e1 e2
  subst e1 e2
  exact hc
 have hc0 : w.cell? ⟨b, off, none⟩ = some (.string ⟨w0.toArray⟩) := hcell 0 (by omega)
 have hc1 : w.cell? ⟨b, off + 1, none⟩ = some (.string ⟨v0.toArray⟩) := hcell 1 (by omega)
 have hb : b < w.heap.size := World.block_lt_of_cell? w ⟨b, off, none⟩ hc0
 have hle := h.le
 have hmx := h.max
 unfold maxLen at hmx
 simp only at hle hmx
 have hlv : v0.length ≤ 9223372036854775807 := by have := hm v0 (by simp); unfold lenOk at this; omega
 have ta := (Turned.refl (fun _ => False) w).alloc (.cells #[.int .u8 0, .int .i64 0, .string ⟨#[]⟩, .int .i64 0, .int .i64 0, .int .i64 0, .int .i64 0, .int .i64 0, .int .i64 0, .slice none 0 0, .slice none 0 0] 28)
 have xr := Blk.new w 28 #[.int .u8 0, .int .i64 0, .string ⟨#[]⟩, .int .i64 0, .int .i64 0, .int .i64 0, .int .i64 0, .int .i64 0, .int .i64 0, .slice none 0 0, .slice none 0 0]
 have ha0 : (w.alloc (.cells #[.int .u8 0, .int .i64 0, .string ⟨#[]⟩, .int .i64 0, .int .i64 0, .int .i64 0, .int .i64 0, .int .i64 0, .int .i64 0, .slice none 0 0, .slice none 0 0] 28)).cell? ⟨b, off, none⟩ = some (.string ⟨w0.toArray⟩) := cell_turned ta hc0 (fun e => e)
 have ha1 : (w.alloc (.cells #[.int .u8 0, .int .i64 0, .string ⟨#[]⟩, .int .i64 0, .int .i64 0, .int .i64 0, .int .i64 0, .int .i64 0, .int .i64 0, .slice none 0 0, .slice none 0 0] 28)).cell? ⟨b, off + 1, none⟩ = some (.string ⟨v0.toArray⟩) := cell_turned ta hc1 (fun e => e)
 have hza : (w.alloc (.cells #[.int .u8 0, .int .i64 0, .string ⟨#[]⟩, .int .i64 0, .int .i64 0, .int .i64 0, .int .i64 0, .int .i64 0, .int .i64 0, .slice none 0 0, .slice none 0 0] 28)).heap.size = w.heap.size + 1 := by simp
 have hsl := h.fresh ta
 have hlen2 : (2 : Int) ≤ (n : Int) := by omega
 have h' := hZ h
 have hm' := hZ hm
 have hcell' := hZ hcell
 have ta' := hZ ta
 have xr' := hZ xr
 have hsl' := hZ hsl
 have hza' := hZ hza
 have hn2' := hZ hn2
 clear h hm hcell ta xr hsl hza hn2 hc0 hc1
 go_enter Tryz.func69, Tryz.ntmps69
 go_wp2_with fail
 generalize w.alloc (.cells #[.int .u8 0, .int .i64 0, .string ⟨#[]⟩, .int .i64 0, .int .i64 0, .int .i64 0, .int .i64 0, .int .i64 0, .int .i64 0, .slice none 0 0, .slice none 0 0] 28) = wa at *
 refine (rkind_any w0 wa).mono ?_
 rintro e w1 ⟨rfl, rfl⟩
 unfold kindV
 go_wp2_with fail
 refine (rnumber_any ⟨v0.toArray⟩ wa hlv).mono ?_
 rintro e w2 ⟨rfl, rfl⟩
 have hdat : (⟨v0.toArray⟩ : ByteArray).data.toList = v0 := by simp
 rw [hdat]
 have hfk := fieldsK_all (kindW w0)
 have hk15 : isByte (kindW w0) := kindW_byte w0
 have hr64 := numL_64 v0
 have HB := hZ (fun (hf : ((fieldsK (kindW w0)).getD []).foldl optF (some (⟨kindW w0, (numL v0).getD 0, [], 0, 0, 0, 0, 0, 0, [], []⟩, ws0)) = none) => askW_bad (v := v0) hf)
 have HG := hZ (fun (hs : (numL v0).isSome = true) (x : AskV) (vs : WS) (hf : ((fieldsK (kindW w0)).getD []).foldl optF (some (⟨kindW w0, (numL v0).getD 0, [], 0, 0, 0, 0, 0, 0, [], []⟩, ws0)) = some (x, vs)) => askW_good hs hf)
 have HN := hZ (fun (hs : (numL v0).isSome = false) => askW_nonum (w := w0) (ws := ws0) hs)
 generalize (fieldsK (kindW w0)).getD [] = f at *
 generalize kindW w0 = k at *
 generalize hr0 : (numL v0).getD 0 = r0 at *
 generalize hok0 : (numL v0).isSome = ok0 at *
 clear hr0 hok0
 go_upto_region 6 with fail
 have tb := (Turned.refl (fun _ => False) wa).alloc (.cells #[.int .u8 k, .int .i64 r0, .string ⟨#[]⟩, .int .i64 0, .int .i64 0, .int .i64 0, .int .i64 0, .int .i64 0, .int .i64 0, .slice none 0 0, .slice none 0 0] 28)
 have xb := Blk.new wa 28 #[.int .u8 k, .int .i64 r0, .string ⟨#[]⟩, .int .i64 0, .int .i64 0, .int .i64 0, .int .i64 0, .int .i64 0, .int .i64 0, .slice none 0 0, .slice none 0 0]
 have xrb := hZ (xr'.out.turned tb (fun e => e))
 have hslb := hZ (hsl'.out.fresh tb)
 have tbw := hZ (ta'.out.and_ tb)
 obtain ⟨wb, hwb⟩ : ∃ wb, wb = wa.alloc (.cells #[.int .u8 k, .int .i64 r0, .string ⟨#[]⟩, .int .i64 0, .int .i64 0, .int .i64 0, .int .i64 0, .int .i64 0, .int .i64 0, .slice none 0 0, .slice none 0 0] 28) := ⟨_, rfl⟩
 rw [← hwb] at xb xrb hslb tbw ⊢
 clear hwb tb ta' xr' hsl' ha0 ha1
 obtain ⟨bx, hbx⟩ : ∃ bx, wa.heap.size = bx := ⟨_, rfl⟩
 have hza := hza'.out
 rw [hbx] at xb hza ⊢
 have xb := hZ xb
 obtain ⟨br, hbr⟩ : ∃ br, w.heap.size = br := ⟨_, rfl⟩
 have hbl : w.heap.size ≤ br := by omega
 rw [hbr] at xrb ⊢
 have hbb : br < bx := by omega
 have hbw : b < br := by omega
 clear hza' hbx hza hcell'
 generalize hx0 : (⟨k, r0, [], 0, 0, 0, 0, 0, 0, [], []⟩ : AskV) = x0 at *
 go_cut [0] from 36 to 37 (fun u0 wc => ∃ s0 : Sl, u0 = .slice s0.A s0.n s0.c ∧ wc = wb ∧ RqW w br bx x0 AskS.nil s0 ws0 wb)
 case first =>
  have mk : ∀ s0 : Sl, SlT wb s0 ws0 → (∀ b' o, s0.A = some ⟨b', o, none⟩ → b' = b) → RqW w br bx x0 AskS.nil s0 ws0 wb := fun s0 hs hA => ⟨hs, fun y hy => hm'.out y (by simp [hy]), fun b' o e => by have := hA b' o e; omega, by rw [← hx0]; exact xb.out, by rw [← hx0]; exact AskOwn.nil _ _ _ rfl rfl,
   by rw [← hx0]; exact ⟨hk15, hr64, by unfold strOk; simp, I64_0, I64_0, I64_0, I64_0, I64_0, I64_0, by simp, by simp⟩, xrb.out, tbw.out, by rw [← hx0]; simp; omega, by rw [← hx0]; simp; omega, hbl, hbb⟩
  have mk := hZ mk
  clear hx0
  go_wp2_with fail
  ·have hc2 : c = 2 := by assumption
   subst hc2
   go_meet
   have := hslb.out.dropAll 2 (by have := hn2'.out; omega) rfl
   refine ⟨⟨some ⟨b, off, none⟩, n - 2, 0⟩, rfl, rfl, mk.out _ this (fun b' o e => by injection e with e; injection e with e _; exact e.symm)⟩
  ·go_meet
   have := hslb.out.dropK 2 (by have := hn2'.out; omega)
   exact ⟨⟨some ⟨b, off + 2, none⟩, n - 2, c - 2⟩, rfl, rfl, mk.out _ this (fun b' o e => by injection e with e; injection e with e _; exact e.symm)⟩
 case rest =>
  obtain ⟨⟨sA0, sn0, sc0⟩, rfl, rfl, R0⟩ := hcut
  have hst := hZ (show RqRel (askW (w0 :: v0 :: ws0) = none) w br bx f x0 ws0 (.slice sA0 sn0 sc0) (.bool ok0) (.int .i64 0) wc from ⟨0, x0, AskS.nil, ⟨sA0, sn0, sc0⟩, ws0, ok0, Nat.zero_le _, rfl, rfl, rfl, R0, by
   cases ok0 with
   | true => exact .inl ⟨rfl, rfl⟩
   | false => exact .inr ⟨HN.out rfl, .inl rfl⟩⟩)
  have HF := hZ (fun (hb : ok0 = true) (x : AskV) (vs : WS) (hf : f.foldl optF (some (x0, ws0)) = some (x, vs)) => HG.out hb x vs hf)
  clear R0 HN HG h' hm' xb xrb hslb tbw hx0 hn2'
  go_wp2_with fail
  go_loopw [0, 7, 9] (fun l ok i wr => RqRel (askW (w0 :: v0 :: ws0) = none) w br bx f x0 ws0 l ok i wr ∧ (ok = .bool true → ok0 = true)) (fun l ok i _ => f.length - (intOf i).toNat)
  case atStart => exact ⟨hst.out, fun e => by injection e⟩
  case round =>
   obtain ⟨⟨pos, ⟨xk, xr, xi, xq, xd, xl, xa, xt, xn, xp, xo⟩, ⟨⟨PA, Pn, Pc⟩, ⟨QA, On, Oc⟩⟩, ⟨sA, sn, sc⟩, ws6, bb, hp0, rfl, rfl, rfl, R6z, hfz⟩, hokz⟩ := hrel
   have R6 := hZ R6z
   have hok := hZ hokz
   have hfz := hZ hfz
   clear R6z hokz hst
   by_cases hp : pos < (fBA f).size
   ·have hpl : pos < f.length := by rw [fBA_size] at hp; exact hp
    have hpi : (pos : Int) < ((fBA f).size : Int) := by omega
    cases bb with
    | false =>
     have HA := hZ (show askW (w0 :: v0 :: ws0) = none from by
      rcases hfz.out with ⟨h1, _⟩ | ⟨h1, _⟩
      ·cases h1
      ·exact h1)
     go_upto_region 41 with fail
     have DQ := hZ (R6.out.fresh ((Turned.refl (fun _ => False) wr).drew))
     refine wp_region_segs (fun w' => AskAt w' bx ⟨xk, xr, xi, xq, xd, xl, xa, xt, xn, xp, xo⟩ ⟨⟨PA, Pn, Pc⟩, ⟨QA, On, Oc⟩⟩) (segT [0, 1, 2, 3, 4, 5, 6, 7, 8] ++ segF [9] ++ segT [10] ++ segF [11] ++ segT [12]) mixed (by kernel_rfl) (fun _ _ _ _ _ h => h) ?_
     simp only [segT, segF, pickSegs, zF, List.map_nil, zG, zH, List.filterMap_cons, List.filterMap_nil, zI, zJ, Option.map_some]
     have hS := DQ.out.aa
     iterate 3 (refine wpSegs_take (v := ?_) hS rfl (fun w' hw => ?_) ?_; rotate_left; (obtain ⟨c0, c1, c2, c3, c4, c5, c6, c7, c8, c9, c10⟩ := AskAt.cells hw; simp only at c0 c1 c2 c3 c4 c5 c6 c7 c8 c9 c10; go_simp; try with_reducible rfl); try simp only [Act.put, zA, zB, zC])
     iterate 3 (refine wpSegs_skip hS rfl ?_; try simp only [Act.put, zA, zB, zC])
     iterate 2 (refine wpSegs_take (v := ?_) hS rfl (fun w' hw => ?_) ?_; rotate_left; (obtain ⟨c0, c1, c2, c3, c4, c5, c6, c7, c8, c9, c10⟩ := AskAt.cells hw; simp only at c0 c1 c2 c3 c4 c5 c6 c7 c8 c9 c10; go_simp; try with_reducible rfl); try simp only [Act.put, zA, zB, zC])
     (refine wpSegs_skip hS rfl ?_; try simp only [Act.put, zA, zB, zC])
     generalize wr.drew = WD at *
     (refine wpSegs_runSkip hS rfl ?_; try simp only [Act.put, zA, zB, zC])
     (refine wpSegs_take (v := ?_) hS rfl (fun w' hw => ?_) ?_; rotate_left; (obtain ⟨c0, c1, c2, c3, c4, c5, c6, c7, c8, c9, c10⟩ := AskAt.cells hw; simp only at c0 c1 c2 c3 c4 c5 c6 c7 c8 c9 c10; go_simp; try with_reducible rfl); try simp only [Act.put, zA, zB, zC])
     obtain ⟨y0, y1, y2, y3, y4, y5, y6, y7, y8, y9, y10⟩ := Blk.cells11 DQ.out.res
     have yf := DQ.out.res.frozen
     refine wpSegs_run rfl (fun K hK => ?_)
     go_simp
     obtain ⟨wz, hwz, XZ, tZ⟩ := fin11 (.int .u8 xk) (.int .i64 xr) (.string ⟨xi.toArray⟩) (.int .i64 xq) (.int .i64 xd) (.int .i64 xl) (.int .i64 xa) (.int .i64 xt) (.int .i64 xn) (.slice PA Pn Pc) (.slice QA On Oc) DQ.out.res
     rw [hwz]
     clear hwz
     have nr := DQ.out.b2
     have hS := AskAt.turned DQ.out.aa tZ (fun e => by omega)
     refine hK.out _ _ hS ?_
     clear hK K
     (refine wpSegs_take (v := ?_) hS rfl (fun w' hw => ?_) ?_; rotate_left; (obtain ⟨c0, c1, c2, c3, c4, c5, c6, c7, c8, c9, c10⟩ := AskAt.cells hw; simp only at c0 c1 c2 c3 c4 c5 c6 c7 c8 c9 c10; go_simp; try with_reducible rfl); try simp only [Act.put, zA, zB, zC])
     refine wpSegs_nil ?_
     clear hS
     go_wp2_with fail
     obtain ⟨e0, e1, e2, e3, e4, e5, e6, e7, e8, e9, e10⟩ := XZ.cells11
     refine bodyPost_ret (v := .tuple #[.agg #[.int .u8 xk, .int .i64 xr, .string ⟨xi.toArray⟩, .int .i64 xq, .int .i64 xd, .int .i64 xl, .int .i64 xa, .int .i64 xt, .int .i64 xn, .slice PA Pn Pc, .slice QA On Oc], .bool false]) (by simp [results, Tryz.results69, go_sem, e0, e1, e2, e3, e4, e5, e6, e7, e8, e9, e10]) rfl ?_
     have nb := DQ.out.b1
     exact ⟨_, ⟨⟨PA, Pn, Pc⟩, ⟨QA, On, Oc⟩⟩, false, rfl, ⟨DQ.out.own.parts.turned tZ (fun g e e2 => DQ.out.own.parts.blk DQ.out.res (by decide) e e2), DQ.out.own.others.turned tZ (fun g e e2 => DQ.out.own.others.blk DQ.out.res (by decide) e e2), DQ.out.own.pB, DQ.out.own.oB⟩, DQ.out.ok, HA.out, DQ.out.t.trans tZ (fun _ e => e) (fun i e => .inr (by subst e; omega))⟩
    | true =>
     have hf := hZ (show (f.take pos).foldl optF (some (x0, ws0)) = some (⟨xk, xr, xi, xq, xd, xl, xa, xt, xn, xp, xo⟩, ws6) from by
      rcases hfz.out with ⟨_, h1⟩ | ⟨_, h1⟩
      ·exact h1
      ·rcases h1 with h1 | ⟨_, h1⟩
       ·cases h1
       ·omega)
     obtain ⟨c7, hcm2, hcv, htk0, h128⟩ := letter_at hfk hp
     have htk := hZ htk0
     have hpb : pos ≤ 4 := by have := (kinds_letters hfk).1; omega
     clear htk0 hfz
     unfold letters at hcm2
     simp only [List.mem_cons, List.not_mem_nil, or_false] at hcm2
     rcases hcm2 with rfl | rfl | rfl | rfl | rfl | rfl | rfl | rfl | rfl
     ·cases ws6 with
      | nil =>
       have hno := hZ (HB.out (fold_none htk.out hf.out (show takeF (⟨xk, xr, xi, xq, xd, xl, xa, xt, xn, xp, xo⟩, ([] : WS)) 105 = none from rfl)))
       have hl0 : sn = 0 := R6.out.sl.len.symm
       have hl1 : ((sn : Int) == 0) = true := by rw [hl0]; rfl
       obtain ⟨y0, y1, y2, y3, y4, y5, y6, y7, y8, y9, y10⟩ := Blk.cells11 R6.out.res
       have yf := R6.out.res.frozen
       go_wp2_with fail
       obtain ⟨wz, hwz, XZ, tZ⟩ := fin11 (.int .u8 0) (.int .i64 0) (.string ⟨#[]⟩) (.int .i64 0) (.int .i64 0) (.int .i64 0) (.int .i64 0) (.int .i64 0) (.int .i64 0) (.slice none 0 0) (.slice none 0 0) R6.out.res
       rw [hwz]
       clear hwz
       obtain ⟨e0, e1, e2, e3, e4, e5, e6, e7, e8, e9, e10⟩ := XZ.cells11
       refine bodyPost_ret (v := .tuple #[.agg #[.int .u8 0, .int .i64 0, .string ⟨#[]⟩, .int .i64 0, .int .i64 0, .int .i64 0, .int .i64 0, .int .i64 0, .int .i64 0, .slice none 0 0, .slice none 0 0], .bool false]) (by simp [results, Tryz.results69, go_sem, e0, e1, e2, e3, e4, e5, e6, e7, e8, e9, e10]) rfl ?_
       have nb := R6.out.b1
       exact ⟨AskV.zero, AskS.nil, false, rfl, AskOwn.nil _ _ _ rfl rfl, AskV.Ok.zero, hno.out, R6.out.t.trans tZ (fun _ e => e) (fun i e => .inr (by subst e; omega))⟩
      | cons y t =>
       have hl0 := R6.out.sl.len
       simp only [List.length_cons] at hl0
       have hl1 : ((sn : Int) == 0) = false := by simp; omega
       have hl2 : (0 : Int) < (sn : Int) := by omega
       obtain ⟨b6, off6, hA6, hc6⟩ := R6.out.sl.cells (show 0 < sn by omega)
       simp only at hA6 hc6
       subst hA6
       have hy : wr.cell? ⟨b6, off6, none⟩ = some (.string ⟨y.toArray⟩) := hc6 0 (by omega)
       have hyl : y.length ≤ 9223372036854775807 := by have := R6.out.mem y (by simp); unfold lenOk at this; omega
       clear hc6
       have hnum := hZ (rnumber_any ⟨y.toArray⟩ wr (by show y.toArray.size ≤ _; rw [List.size_toArray]; exact hyl))
       have hnum : Hid (Calls Tryz.prog 67 #[.string ⟨y.toArray⟩] wr (RNumPost (numL y) wr)) := by
        have e : (⟨y.toArray⟩ : ByteArray).data.toList = y := by simp
        rw [e] at hnum
        exact hnum
       have hv64 := numL_64 y
       skip
       skip
       go_wp2_with fail
       refine hnum.out.mono ?_
       rintro e wq ⟨rfl, rfl⟩
       clear hnum
       generalize (numL y).getD 0 = nv at *
       generalize hns : (numL y).isSome = ns at *
       clear hns
       have b0 : wr.cell? ⟨bx, 2, none⟩ = some (.string ⟨xi.toArray⟩) := R6.out.aa.cell 2
       have f0 := R6.out.aa.frozen 2
       have RS := hZ (R6.out.store (x' := ⟨xk, xr, y, xq, xd, xl, xa, xt, xn, xp, xo⟩) (S' := ⟨⟨PA, Pn, Pc⟩, ⟨QA, On, Oc⟩⟩) 2 (.string ⟨y.toArray⟩) rfl ⟨R6.out.own.parts, R6.out.own.others, R6.out.own.pB, R6.out.own.oB⟩ ⟨R6.out.ok.kind, R6.out.ok.request, (by have := R6.out.mem y (by simp); unfold lenOk at this; unfold strOk; omega), R6.out.ok.qty, R6.out.ok.day, R6.out.ok.days, R6.out.ok.rank, R6.out.ok.lot, R6.out.ok.line, R6.out.ok.parts, R6.out.ok.others⟩ R6.out.pN R6.out.oN)
       obtain ⟨W7, hW7⟩ : ∃ W7, wr.setCell ⟨bx, 2, none⟩ (.string ⟨y.toArray⟩) = W7 := ⟨_, rfl⟩
       rw [hW7] at RS
       have hW7 := hZ hW7
       have hle6 := RS.out.sl.le
       have hmx6 := RS.out.sl.max
       unfold maxLen at hmx6
       simp only at hle6 hmx6
       have hni : (1 : Int) ≤ (sn : Int) := by omega
       have F1 := hZ (show RqW w br bx ⟨xk, xr, y, xq, xd, xl, xa, xt, xn, xp, xo⟩ ⟨⟨PA, Pn, Pc⟩, ⟨QA, On, Oc⟩⟩ ⟨if sc = 1 then some ⟨b6, off6, none⟩ else some ⟨b6, off6 + 1, none⟩, sn - 1, sc - 1⟩ t W7 from by
        by_cases h : sc = 1
        ·rw [if_pos h, h]
         exact RS.out.cut 1 (RS.out.sl.dropAll 1 (by omega) h) (fun b o e => RS.out.old b o e)
        ·rw [if_neg h]
         exact RS.out.cut 1 (RS.out.sl.dropK 1 (by omega)) (fun b o e => by injection e with e; injection e with e _; subst e; exact RS.out.old _ _ rfl))
       clear hl0
       have GI := hZ (show RqRel (askW (w0 :: v0 :: ws0) = none) w br bx f x0 ws0 (.slice (if sc = 1 then some ⟨b6, off6, none⟩ else some ⟨b6, off6 + 1, none⟩) (sn - 1) (sc - 1)) (.bool true) (.int .i64 ((pos + 1 : Nat) : Int)) W7 from ⟨pos + 1, _, _, ⟨if sc = 1 then some ⟨b6, off6, none⟩ else some ⟨b6, off6 + 1, none⟩, sn - 1, sc - 1⟩, t, true, hpl, rfl, rfl, rfl, F1.out, .inl ⟨rfl, fold_some htk.out hf.out rfl⟩⟩)
       clear R6 RS
       go_wp2_with fail
       try rw [hW7.out]
       go_roundw
       case rel => exact ⟨GI.out, (by first | exact fun _ => hok.out rfl | exact fun _ => hok.out trivial | exact hok.out trivial | exact hok.out rfl)⟩
       case measure => simp [intOf] <;> omega
     ·cases ws6 with
      | nil =>
       have hno := hZ (HB.out (fold_none htk.out hf.out (show takeF (⟨xk, xr, xi, xq, xd, xl, xa, xt, xn, xp, xo⟩, ([] : WS)) 113 = none from rfl)))
       have hl0 : sn = 0 := R6.out.sl.len.symm
       have hl1 : ((sn : Int) == 0) = true := by rw [hl0]; rfl
       obtain ⟨y0, y1, y2, y3, y4, y5, y6, y7, y8, y9, y10⟩ := Blk.cells11 R6.out.res
       have yf := R6.out.res.frozen
       go_wp2_with fail
       obtain ⟨wz, hwz, XZ, tZ⟩ := fin11 (.int .u8 0) (.int .i64 0) (.string ⟨#[]⟩) (.int .i64 0) (.int .i64 0) (.int .i64 0) (.int .i64 0) (.int .i64 0) (.int .i64 0) (.slice none 0 0) (.slice none 0 0) R6.out.res
       rw [hwz]
       clear hwz
       obtain ⟨e0, e1, e2, e3, e4, e5, e6, e7, e8, e9, e10⟩ := XZ.cells11
       refine bodyPost_ret (v := .tuple #[.agg #[.int .u8 0, .int .i64 0, .string ⟨#[]⟩, .int .i64 0, .int .i64 0, .int .i64 0, .int .i64 0, .int .i64 0, .int .i64 0, .slice none 0 0, .slice none 0 0], .bool false]) (by simp [results, Tryz.results69, go_sem, e0, e1, e2, e3, e4, e5, e6, e7, e8, e9, e10]) rfl ?_
       have nb := R6.out.b1
       exact ⟨AskV.zero, AskS.nil, false, rfl, AskOwn.nil _ _ _ rfl rfl, AskV.Ok.zero, hno.out, R6.out.t.trans tZ (fun _ e => e) (fun i e => .inr (by subst e; omega))⟩
      | cons y t =>
       have hl0 := R6.out.sl.len
       simp only [List.length_cons] at hl0
       have hl1 : ((sn : Int) == 0) = false := by simp; omega
       have hl2 : (0 : Int) < (sn : Int) := by omega
       obtain ⟨b6, off6, hA6, hc6⟩ := R6.out.sl.cells (show 0 < sn by omega)
       simp only at hA6 hc6
       subst hA6
       have hy : wr.cell? ⟨b6, off6, none⟩ = some (.string ⟨y.toArray⟩) := hc6 0 (by omega)
       have hyl : y.length ≤ 9223372036854775807 := by have := R6.out.mem y (by simp); unfold lenOk at this; omega
       clear hc6
       have hnum := hZ (rnumber_any ⟨y.toArray⟩ wr (by show y.toArray.size ≤ _; rw [List.size_toArray]; exact hyl))
       have hnum : Hid (Calls Tryz.prog 67 #[.string ⟨y.toArray⟩] wr (RNumPost (numL y) wr)) := by
        have e : (⟨y.toArray⟩ : ByteArray).data.toList = y := by simp
        rw [e] at hnum
        exact hnum
       have hv64 := numL_64 y
       have hTt := hZ (fun (h : (numL y).isSome = true) => show takeF (⟨xk, xr, xi, xq, xd, xl, xa, xt, xn, xp, xo⟩, (y :: t : WS)) 113 = some (⟨xk, xr, xi, ((numL y).getD 0), xd, xl, xa, xt, xn, xp, xo⟩, t) from num_take_some h (fun n => ⟨xk, xr, xi, n, xd, xl, xa, xt, xn, xp, xo⟩))
       have hTf := hZ (fun (h : (numL y).isSome = false) => show takeF (⟨xk, xr, xi, xq, xd, xl, xa, xt, xn, xp, xo⟩, (y :: t : WS)) 113 = none from num_take_none h (fun n => ⟨xk, xr, xi, n, xd, xl, xa, xt, xn, xp, xo⟩))
       go_wp2_with fail
       refine hnum.out.mono ?_
       rintro e wq ⟨rfl, rfl⟩
       clear hnum
       generalize (numL y).getD 0 = nv at *
       generalize hns : (numL y).isSome = ns at *
       clear hns
       have b0 : wr.cell? ⟨bx, 3, none⟩ = some (.int .i64 xq) := R6.out.aa.cell 3
       have f0 := R6.out.aa.frozen 3
       have RS := hZ (R6.out.store (x' := ⟨xk, xr, xi, nv, xd, xl, xa, xt, xn, xp, xo⟩) (S' := ⟨⟨PA, Pn, Pc⟩, ⟨QA, On, Oc⟩⟩) 3 (.int .i64 nv) rfl ⟨R6.out.own.parts, R6.out.own.others, R6.out.own.pB, R6.out.own.oB⟩ ⟨R6.out.ok.kind, R6.out.ok.request, R6.out.ok.item, hv64, R6.out.ok.day, R6.out.ok.days, R6.out.ok.rank, R6.out.ok.lot, R6.out.ok.line, R6.out.ok.parts, R6.out.ok.others⟩ R6.out.pN R6.out.oN)
       obtain ⟨W7, hW7⟩ : ∃ W7, wr.setCell ⟨bx, 3, none⟩ (.int .i64 nv) = W7 := ⟨_, rfl⟩
       rw [hW7] at RS
       have hW7 := hZ hW7
       have hle6 := RS.out.sl.le
       have hmx6 := RS.out.sl.max
       unfold maxLen at hmx6
       simp only at hle6 hmx6
       have hni : (1 : Int) ≤ (sn : Int) := by omega
       have F1 := hZ (show RqW w br bx ⟨xk, xr, xi, nv, xd, xl, xa, xt, xn, xp, xo⟩ ⟨⟨PA, Pn, Pc⟩, ⟨QA, On, Oc⟩⟩ ⟨if sc = 1 then some ⟨b6, off6, none⟩ else some ⟨b6, off6 + 1, none⟩, sn - 1, sc - 1⟩ t W7 from by
        by_cases h : sc = 1
        ·rw [if_pos h, h]
         exact RS.out.cut 1 (RS.out.sl.dropAll 1 (by omega) h) (fun b o e => RS.out.old b o e)
        ·rw [if_neg h]
         exact RS.out.cut 1 (RS.out.sl.dropK 1 (by omega)) (fun b o e => by injection e with e; injection e with e _; subst e; exact RS.out.old _ _ rfl))
       clear hl0
       cases ns with
       | false =>
        have hbad := HB.out (fold_none htk.out hf.out (hTf.out rfl))
        have GI := hZ (show RqRel (askW (w0 :: v0 :: ws0) = none) w br bx f x0 ws0 (.slice (if sc = 1 then some ⟨b6, off6, none⟩ else some ⟨b6, off6 + 1, none⟩) (sn - 1) (sc - 1)) (.bool false) (.int .i64 ((pos + 1 : Nat) : Int)) W7 from ⟨pos + 1, _, _, ⟨if sc = 1 then some ⟨b6, off6, none⟩ else some ⟨b6, off6 + 1, none⟩, sn - 1, sc - 1⟩, t, false, hpl, rfl, rfl, rfl, F1.out, .inr ⟨hbad, .inl rfl⟩⟩)
        clear R6 RS
        go_wp2_with fail
        try rw [hW7.out]
        go_roundw
        case rel => exact ⟨GI.out, fun e => by cases e⟩
        case measure => simp [intOf] <;> omega
       | true =>
        have hgd := fold_some htk.out hf.out (hTt.out rfl)
        have GI := hZ (show RqRel (askW (w0 :: v0 :: ws0) = none) w br bx f x0 ws0 (.slice (if sc = 1 then some ⟨b6, off6, none⟩ else some ⟨b6, off6 + 1, none⟩) (sn - 1) (sc - 1)) (.bool true) (.int .i64 ((pos + 1 : Nat) : Int)) W7 from ⟨pos + 1, _, _, ⟨if sc = 1 then some ⟨b6, off6, none⟩ else some ⟨b6, off6 + 1, none⟩, sn - 1, sc - 1⟩, t, true, hpl, rfl, rfl, rfl, F1.out, .inl ⟨rfl, hgd⟩⟩)
        clear R6 RS
        go_wp2_with fail
        try rw [hW7.out]
        go_roundw
        case rel => exact ⟨GI.out, (by first | exact fun _ => hok.out rfl | exact fun _ => hok.out trivial | exact hok.out trivial | exact hok.out rfl)⟩
        case measure => simp [intOf] <;> omega
     ·cases ws6 with
      | nil =>
       have hno := hZ (HB.out (fold_none htk.out hf.out (show takeF (⟨xk, xr, xi, xq, xd, xl, xa, xt, xn, xp, xo⟩, ([] : WS)) 100 = none from rfl)))
       have hl0 : sn = 0 := R6.out.sl.len.symm
       have hl1 : ((sn : Int) == 0) = true := by rw [hl0]; rfl
       obtain ⟨y0, y1, y2, y3, y4, y5, y6, y7, y8, y9, y10⟩ := Blk.cells11 R6.out.res
       have yf := R6.out.res.frozen
       go_wp2_with fail
       obtain ⟨wz, hwz, XZ, tZ⟩ := fin11 (.int .u8 0) (.int .i64 0) (.string ⟨#[]⟩) (.int .i64 0) (.int .i64 0) (.int .i64 0) (.int .i64 0) (.int .i64 0) (.int .i64 0) (.slice none 0 0) (.slice none 0 0) R6.out.res
       rw [hwz]
       clear hwz
       obtain ⟨e0, e1, e2, e3, e4, e5, e6, e7, e8, e9, e10⟩ := XZ.cells11
       refine bodyPost_ret (v := .tuple #[.agg #[.int .u8 0, .int .i64 0, .string ⟨#[]⟩, .int .i64 0, .int .i64 0, .int .i64 0, .int .i64 0, .int .i64 0, .int .i64 0, .slice none 0 0, .slice none 0 0], .bool false]) (by simp [results, Tryz.results69, go_sem, e0, e1, e2, e3, e4, e5, e6, e7, e8, e9, e10]) rfl ?_
       have nb := R6.out.b1
       exact ⟨AskV.zero, AskS.nil, false, rfl, AskOwn.nil _ _ _ rfl rfl, AskV.Ok.zero, hno.out, R6.out.t.trans tZ (fun _ e => e) (fun i e => .inr (by subst e; omega))⟩
      | cons y t =>
       have hl0 := R6.out.sl.len
       simp only [List.length_cons] at hl0
       have hl1 : ((sn : Int) == 0) = false := by simp; omega
       have hl2 : (0 : Int) < (sn : Int) := by omega
       obtain ⟨b6, off6, hA6, hc6⟩ := R6.out.sl.cells (show 0 < sn by omega)
       simp only at hA6 hc6
       subst hA6
       have hy : wr.cell? ⟨b6, off6, none⟩ = some (.string ⟨y.toArray⟩) := hc6 0 (by omega)
       have hyl : y.length ≤ 9223372036854775807 := by have := R6.out.mem y (by simp); unfold lenOk at this; omega
       clear hc6
       have hnum := hZ (rnumber_any ⟨y.toArray⟩ wr (by show y.toArray.size ≤ _; rw [List.size_toArray]; exact hyl))
       have hnum : Hid (Calls Tryz.prog 67 #[.string ⟨y.toArray⟩] wr (RNumPost (numL y) wr)) := by
        have e : (⟨y.toArray⟩ : ByteArray).data.toList = y := by simp
        rw [e] at hnum
        exact hnum
       have hv64 := numL_64 y
       have hTt := hZ (fun (h : (numL y).isSome = true) => show takeF (⟨xk, xr, xi, xq, xd, xl, xa, xt, xn, xp, xo⟩, (y :: t : WS)) 100 = some (⟨xk, xr, xi, xq, ((numL y).getD 0), xl, xa, xt, xn, xp, xo⟩, t) from num_take_some h (fun n => ⟨xk, xr, xi, xq, n, xl, xa, xt, xn, xp, xo⟩))
       have hTf := hZ (fun (h : (numL y).isSome = false) => show takeF (⟨xk, xr, xi, xq, xd, xl, xa, xt, xn, xp, xo⟩, (y :: t : WS)) 100 = none from num_take_none h (fun n => ⟨xk, xr, xi, xq, n, xl, xa, xt, xn, xp, xo⟩))
       go_wp2_with fail
       refine hnum.out.mono ?_
       rintro e wq ⟨rfl, rfl⟩
       clear hnum
       generalize (numL y).getD 0 = nv at *
       generalize hns : (numL y).isSome = ns at *
       clear hns
       have b0 : wr.cell? ⟨bx, 4, none⟩ = some (.int .i64 xd) := R6.out.aa.cell 4
       have f0 := R6.out.aa.frozen 4
       have RS := hZ (R6.out.store (x' := ⟨xk, xr, xi, xq, nv, xl, xa, xt, xn, xp, xo⟩) (S' := ⟨⟨PA, Pn, Pc⟩, ⟨QA, On, Oc⟩⟩) 4 (.int .i64 nv) rfl ⟨R6.out.own.parts, R6.out.own.others, R6.out.own.pB, R6.out.own.oB⟩ ⟨R6.out.ok.kind, R6.out.ok.request, R6.out.ok.item, R6.out.ok.qty, hv64, R6.out.ok.days, R6.out.ok.rank, R6.out.ok.lot, R6.out.ok.line, R6.out.ok.parts, R6.out.ok.others⟩ R6.out.pN R6.out.oN)
       obtain ⟨W7, hW7⟩ : ∃ W7, wr.setCell ⟨bx, 4, none⟩ (.int .i64 nv) = W7 := ⟨_, rfl⟩
       rw [hW7] at RS
       have hW7 := hZ hW7
       have hle6 := RS.out.sl.le
       have hmx6 := RS.out.sl.max
       unfold maxLen at hmx6
       simp only at hle6 hmx6
       have hni : (1 : Int) ≤ (sn : Int) := by omega
       have F1 := hZ (show RqW w br bx ⟨xk, xr, xi, xq, nv, xl, xa, xt, xn, xp, xo⟩ ⟨⟨PA, Pn, Pc⟩, ⟨QA, On, Oc⟩⟩ ⟨if sc = 1 then some ⟨b6, off6, none⟩ else some ⟨b6, off6 + 1, none⟩, sn - 1, sc - 1⟩ t W7 from by
        by_cases h : sc = 1
        ·rw [if_pos h, h]
         exact RS.out.cut 1 (RS.out.sl.dropAll 1 (by omega) h) (fun b o e => RS.out.old b o e)
        ·rw [if_neg h]
         exact RS.out.cut 1 (RS.out.sl.dropK 1 (by omega)) (fun b o e => by injection e with e; injection e with e _; subst e; exact RS.out.old _ _ rfl))
       clear hl0
       cases ns with
       | false =>
        have hbad := HB.out (fold_none htk.out hf.out (hTf.out rfl))
        have GI := hZ (show RqRel (askW (w0 :: v0 :: ws0) = none) w br bx f x0 ws0 (.slice (if sc = 1 then some ⟨b6, off6, none⟩ else some ⟨b6, off6 + 1, none⟩) (sn - 1) (sc - 1)) (.bool false) (.int .i64 ((pos + 1 : Nat) : Int)) W7 from ⟨pos + 1, _, _, ⟨if sc = 1 then some ⟨b6, off6, none⟩ else some ⟨b6, off6 + 1, none⟩, sn - 1, sc - 1⟩, t, false, hpl, rfl, rfl, rfl, F1.out, .inr ⟨hbad, .inl rfl⟩⟩)
        clear R6 RS
        go_wp2_with fail
        try rw [hW7.out]
        go_roundw
        case rel => exact ⟨GI.out, fun e => by cases e⟩
        case measure => simp [intOf] <;> omega
       | true =>
        have hgd := fold_some htk.out hf.out (hTt.out rfl)
        have GI := hZ (show RqRel (askW (w0 :: v0 :: ws0) = none) w br bx f x0 ws0 (.slice (if sc = 1 then some ⟨b6, off6, none⟩ else some ⟨b6, off6 + 1, none⟩) (sn - 1) (sc - 1)) (.bool true) (.int .i64 ((pos + 1 : Nat) : Int)) W7 from ⟨pos + 1, _, _, ⟨if sc = 1 then some ⟨b6, off6, none⟩ else some ⟨b6, off6 + 1, none⟩, sn - 1, sc - 1⟩, t, true, hpl, rfl, rfl, rfl, F1.out, .inl ⟨rfl, hgd⟩⟩)
        clear R6 RS
        go_wp2_with fail
        try rw [hW7.out]
        go_roundw
        case rel => exact ⟨GI.out, (by first | exact fun _ => hok.out rfl | exact fun _ => hok.out trivial | exact hok.out trivial | exact hok.out rfl)⟩
        case measure => simp [intOf] <;> omega
     ·cases ws6 with
      | nil =>
       have hno := hZ (HB.out (fold_none htk.out hf.out (show takeF (⟨xk, xr, xi, xq, xd, xl, xa, xt, xn, xp, xo⟩, ([] : WS)) 108 = none from rfl)))
       have hl0 : sn = 0 := R6.out.sl.len.symm
       have hl1 : ((sn : Int) == 0) = true := by rw [hl0]; rfl
       obtain ⟨y0, y1, y2, y3, y4, y5, y6, y7, y8, y9, y10⟩ := Blk.cells11 R6.out.res
       have yf := R6.out.res.frozen
       go_wp2_with fail
       obtain ⟨wz, hwz, XZ, tZ⟩ := fin11 (.int .u8 0) (.int .i64 0) (.string ⟨#[]⟩) (.int .i64 0) (.int .i64 0) (.int .i64 0) (.int .i64 0) (.int .i64 0) (.int .i64 0) (.slice none 0 0) (.slice none 0 0) R6.out.res
       rw [hwz]
       clear hwz
       obtain ⟨e0, e1, e2, e3, e4, e5, e6, e7, e8, e9, e10⟩ := XZ.cells11
       refine bodyPost_ret (v := .tuple #[.agg #[.int .u8 0, .int .i64 0, .string ⟨#[]⟩, .int .i64 0, .int .i64 0, .int .i64 0, .int .i64 0, .int .i64 0, .int .i64 0, .slice none 0 0, .slice none 0 0], .bool false]) (by simp [results, Tryz.results69, go_sem, e0, e1, e2, e3, e4, e5, e6, e7, e8, e9, e10]) rfl ?_
       have nb := R6.out.b1
       exact ⟨AskV.zero, AskS.nil, false, rfl, AskOwn.nil _ _ _ rfl rfl, AskV.Ok.zero, hno.out, R6.out.t.trans tZ (fun _ e => e) (fun i e => .inr (by subst e; omega))⟩
      | cons y t =>
       have hl0 := R6.out.sl.len
       simp only [List.length_cons] at hl0
       have hl1 : ((sn : Int) == 0) = false := by simp; omega
       have hl2 : (0 : Int) < (sn : Int) := by omega
       obtain ⟨b6, off6, hA6, hc6⟩ := R6.out.sl.cells (show 0 < sn by omega)
       simp only at hA6 hc6
       subst hA6
       have hy : wr.cell? ⟨b6, off6, none⟩ = some (.string ⟨y.toArray⟩) := hc6 0 (by omega)
       have hyl : y.length ≤ 9223372036854775807 := by have := R6.out.mem y (by simp); unfold lenOk at this; omega
       clear hc6
       have hnum := hZ (rnumber_any ⟨y.toArray⟩ wr (by show y.toArray.size ≤ _; rw [List.size_toArray]; exact hyl))
       have hnum : Hid (Calls Tryz.prog 67 #[.string ⟨y.toArray⟩] wr (RNumPost (numL y) wr)) := by
        have e : (⟨y.toArray⟩ : ByteArray).data.toList = y := by simp
        rw [e] at hnum
        exact hnum
       have hv64 := numL_64 y
       have hTt := hZ (fun (h : (numL y).isSome = true) => show takeF (⟨xk, xr, xi, xq, xd, xl, xa, xt, xn, xp, xo⟩, (y :: t : WS)) 108 = some (⟨xk, xr, xi, xq, xd, ((numL y).getD 0), xa, xt, xn, xp, xo⟩, t) from num_take_some h (fun n => ⟨xk, xr, xi, xq, xd, n, xa, xt, xn, xp, xo⟩))
       have hTf := hZ (fun (h : (numL y).isSome = false) => show takeF (⟨xk, xr, xi, xq, xd, xl, xa, xt, xn, xp, xo⟩, (y :: t : WS)) 108 = none from num_take_none h (fun n => ⟨xk, xr, xi, xq, xd, n, xa, xt, xn, xp, xo⟩))
       go_wp2_with fail
       refine hnum.out.mono ?_
       rintro e wq ⟨rfl, rfl⟩
       clear hnum
       generalize (numL y).getD 0 = nv at *
       generalize hns : (numL y).isSome = ns at *
       clear hns
       have b0 : wr.cell? ⟨bx, 5, none⟩ = some (.int .i64 xl) := R6.out.aa.cell 5
       have f0 := R6.out.aa.frozen 5
       have RS := hZ (R6.out.store (x' := ⟨xk, xr, xi, xq, xd, nv, xa, xt, xn, xp, xo⟩) (S' := ⟨⟨PA, Pn, Pc⟩, ⟨QA, On, Oc⟩⟩) 5 (.int .i64 nv) rfl ⟨R6.out.own.parts, R6.out.own.others, R6.out.own.pB, R6.out.own.oB⟩ ⟨R6.out.ok.kind, R6.out.ok.request, R6.out.ok.item, R6.out.ok.qty, R6.out.ok.day, hv64, R6.out.ok.rank, R6.out.ok.lot, R6.out.ok.line, R6.out.ok.parts, R6.out.ok.others⟩ R6.out.pN R6.out.oN)
       obtain ⟨W7, hW7⟩ : ∃ W7, wr.setCell ⟨bx, 5, none⟩ (.int .i64 nv) = W7 := ⟨_, rfl⟩
       rw [hW7] at RS
       have hW7 := hZ hW7
       have hle6 := RS.out.sl.le
       have hmx6 := RS.out.sl.max
       unfold maxLen at hmx6
       simp only at hle6 hmx6
       have hni : (1 : Int) ≤ (sn : Int) := by omega
       have F1 := hZ (show RqW w br bx ⟨xk, xr, xi, xq, xd, nv, xa, xt, xn, xp, xo⟩ ⟨⟨PA, Pn, Pc⟩, ⟨QA, On, Oc⟩⟩ ⟨if sc = 1 then some ⟨b6, off6, none⟩ else some ⟨b6, off6 + 1, none⟩, sn - 1, sc - 1⟩ t W7 from by
        by_cases h : sc = 1
        ·rw [if_pos h, h]
         exact RS.out.cut 1 (RS.out.sl.dropAll 1 (by omega) h) (fun b o e => RS.out.old b o e)
        ·rw [if_neg h]
         exact RS.out.cut 1 (RS.out.sl.dropK 1 (by omega)) (fun b o e => by injection e with e; injection e with e _; subst e; exact RS.out.old _ _ rfl))
       clear hl0
       cases ns with
       | false =>
        have hbad := HB.out (fold_none htk.out hf.out (hTf.out rfl))
        have GI := hZ (show RqRel (askW (w0 :: v0 :: ws0) = none) w br bx f x0 ws0 (.slice (if sc = 1 then some ⟨b6, off6, none⟩ else some ⟨b6, off6 + 1, none⟩) (sn - 1) (sc - 1)) (.bool false) (.int .i64 ((pos + 1 : Nat) : Int)) W7 from ⟨pos + 1, _, _, ⟨if sc = 1 then some ⟨b6, off6, none⟩ else some ⟨b6, off6 + 1, none⟩, sn - 1, sc - 1⟩, t, false, hpl, rfl, rfl, rfl, F1.out, .inr ⟨hbad, .inl rfl⟩⟩)
        clear R6 RS
        go_wp2_with fail
        try rw [hW7.out]
        go_roundw
        case rel => exact ⟨GI.out, fun e => by cases e⟩
        case measure => simp [intOf] <;> omega
       | true =>
        have hgd := fold_some htk.out hf.out (hTt.out rfl)
        have GI := hZ (show RqRel (askW (w0 :: v0 :: ws0) = none) w br bx f x0 ws0 (.slice (if sc = 1 then some ⟨b6, off6, none⟩ else some ⟨b6, off6 + 1, none⟩) (sn - 1) (sc - 1)) (.bool true) (.int .i64 ((pos + 1 : Nat) : Int)) W7 from ⟨pos + 1, _, _, ⟨if sc = 1 then some ⟨b6, off6, none⟩ else some ⟨b6, off6 + 1, none⟩, sn - 1, sc - 1⟩, t, true, hpl, rfl, rfl, rfl, F1.out, .inl ⟨rfl, hgd⟩⟩)
        clear R6 RS
        go_wp2_with fail
        try rw [hW7.out]
        go_roundw
        case rel => exact ⟨GI.out, (by first | exact fun _ => hok.out rfl | exact fun _ => hok.out trivial | exact hok.out trivial | exact hok.out rfl)⟩
        case measure => simp [intOf] <;> omega
     ·cases ws6 with
      | nil =>
       have hno := hZ (HB.out (fold_none htk.out hf.out (show takeF (⟨xk, xr, xi, xq, xd, xl, xa, xt, xn, xp, xo⟩, ([] : WS)) 114 = none from rfl)))
       have hl0 : sn = 0 := R6.out.sl.len.symm
       have hl1 : ((sn : Int) == 0) = true := by rw [hl0]; rfl
       obtain ⟨y0, y1, y2, y3, y4, y5, y6, y7, y8, y9, y10⟩ := Blk.cells11 R6.out.res
       have yf := R6.out.res.frozen
       go_wp2_with fail
       obtain ⟨wz, hwz, XZ, tZ⟩ := fin11 (.int .u8 0) (.int .i64 0) (.string ⟨#[]⟩) (.int .i64 0) (.int .i64 0) (.int .i64 0) (.int .i64 0) (.int .i64 0) (.int .i64 0) (.slice none 0 0) (.slice none 0 0) R6.out.res
       rw [hwz]
       clear hwz
       obtain ⟨e0, e1, e2, e3, e4, e5, e6, e7, e8, e9, e10⟩ := XZ.cells11
       refine bodyPost_ret (v := .tuple #[.agg #[.int .u8 0, .int .i64 0, .string ⟨#[]⟩, .int .i64 0, .int .i64 0, .int .i64 0, .int .i64 0, .int .i64 0, .int .i64 0, .slice none 0 0, .slice none 0 0], .bool false]) (by simp [results, Tryz.results69, go_sem, e0, e1, e2, e3, e4, e5, e6, e7, e8, e9, e10]) rfl ?_
       have nb := R6.out.b1
       exact ⟨AskV.zero, AskS.nil, false, rfl, AskOwn.nil _ _ _ rfl rfl, AskV.Ok.zero, hno.out, R6.out.t.trans tZ (fun _ e => e) (fun i e => .inr (by subst e; omega))⟩
      | cons y t =>
       have hl0 := R6.out.sl.len
       simp only [List.length_cons] at hl0
       have hl1 : ((sn : Int) == 0) = false := by simp; omega
       have hl2 : (0 : Int) < (sn : Int) := by omega
       obtain ⟨b6, off6, hA6, hc6⟩ := R6.out.sl.cells (show 0 < sn by omega)
       simp only at hA6 hc6
       subst hA6
       have hy : wr.cell? ⟨b6, off6, none⟩ = some (.string ⟨y.toArray⟩) := hc6 0 (by omega)
       have hyl : y.length ≤ 9223372036854775807 := by have := R6.out.mem y (by simp); unfold lenOk at this; omega
       clear hc6
       have hnum := hZ (rnumber_any ⟨y.toArray⟩ wr (by show y.toArray.size ≤ _; rw [List.size_toArray]; exact hyl))
       have hnum : Hid (Calls Tryz.prog 67 #[.string ⟨y.toArray⟩] wr (RNumPost (numL y) wr)) := by
        have e : (⟨y.toArray⟩ : ByteArray).data.toList = y := by simp
        rw [e] at hnum
        exact hnum
       have hv64 := numL_64 y
       have hTt := hZ (fun (h : (numL y).isSome = true) => show takeF (⟨xk, xr, xi, xq, xd, xl, xa, xt, xn, xp, xo⟩, (y :: t : WS)) 114 = some (⟨xk, xr, xi, xq, xd, xl, ((numL y).getD 0), xt, xn, xp, xo⟩, t) from num_take_some h (fun n => ⟨xk, xr, xi, xq, xd, xl, n, xt, xn, xp, xo⟩))
       have hTf := hZ (fun (h : (numL y).isSome = false) => show takeF (⟨xk, xr, xi, xq, xd, xl, xa, xt, xn, xp, xo⟩, (y :: t : WS)) 114 = none from num_take_none h (fun n => ⟨xk, xr, xi, xq, xd, xl, n, xt, xn, xp, xo⟩))
       go_wp2_with fail
       refine hnum.out.mono ?_
       rintro e wq ⟨rfl, rfl⟩
       clear hnum
       generalize (numL y).getD 0 = nv at *
       generalize hns : (numL y).isSome = ns at *
       clear hns
       have b0 : wr.cell? ⟨bx, 6, none⟩ = some (.int .i64 xa) := R6.out.aa.cell 6
       have f0 := R6.out.aa.frozen 6
       have RS := hZ (R6.out.store (x' := ⟨xk, xr, xi, xq, xd, xl, nv, xt, xn, xp, xo⟩) (S' := ⟨⟨PA, Pn, Pc⟩, ⟨QA, On, Oc⟩⟩) 6 (.int .i64 nv) rfl ⟨R6.out.own.parts, R6.out.own.others, R6.out.own.pB, R6.out.own.oB⟩ ⟨R6.out.ok.kind, R6.out.ok.request, R6.out.ok.item, R6.out.ok.qty, R6.out.ok.day, R6.out.ok.days, hv64, R6.out.ok.lot, R6.out.ok.line, R6.out.ok.parts, R6.out.ok.others⟩ R6.out.pN R6.out.oN)
       obtain ⟨W7, hW7⟩ : ∃ W7, wr.setCell ⟨bx, 6, none⟩ (.int .i64 nv) = W7 := ⟨_, rfl⟩
       rw [hW7] at RS
       have hW7 := hZ hW7
       have hle6 := RS.out.sl.le
       have hmx6 := RS.out.sl.max
       unfold maxLen at hmx6
       simp only at hle6 hmx6
       have hni : (1 : Int) ≤ (sn : Int) := by omega
       have F1 := hZ (show RqW w br bx ⟨xk, xr, xi, xq, xd, xl, nv, xt, xn, xp, xo⟩ ⟨⟨PA, Pn, Pc⟩, ⟨QA, On, Oc⟩⟩ ⟨if sc = 1 then some ⟨b6, off6, none⟩ else some ⟨b6, off6 + 1, none⟩, sn - 1, sc - 1⟩ t W7 from by
        by_cases h : sc = 1
        ·rw [if_pos h, h]
         exact RS.out.cut 1 (RS.out.sl.dropAll 1 (by omega) h) (fun b o e => RS.out.old b o e)
        ·rw [if_neg h]
         exact RS.out.cut 1 (RS.out.sl.dropK 1 (by omega)) (fun b o e => by injection e with e; injection e with e _; subst e; exact RS.out.old _ _ rfl))
       clear hl0
       cases ns with
       | false =>
        have hbad := HB.out (fold_none htk.out hf.out (hTf.out rfl))
        have GI := hZ (show RqRel (askW (w0 :: v0 :: ws0) = none) w br bx f x0 ws0 (.slice (if sc = 1 then some ⟨b6, off6, none⟩ else some ⟨b6, off6 + 1, none⟩) (sn - 1) (sc - 1)) (.bool false) (.int .i64 ((pos + 1 : Nat) : Int)) W7 from ⟨pos + 1, _, _, ⟨if sc = 1 then some ⟨b6, off6, none⟩ else some ⟨b6, off6 + 1, none⟩, sn - 1, sc - 1⟩, t, false, hpl, rfl, rfl, rfl, F1.out, .inr ⟨hbad, .inl rfl⟩⟩)
        clear R6 RS
        go_wp2_with fail
        try rw [hW7.out]
        go_roundw
        case rel => exact ⟨GI.out, fun e => by cases e⟩
        case measure => simp [intOf] <;> omega
       | true =>
        have hgd := fold_some htk.out hf.out (hTt.out rfl)
        have GI := hZ (show RqRel (askW (w0 :: v0 :: ws0) = none) w br bx f x0 ws0 (.slice (if sc = 1 then some ⟨b6, off6, none⟩ else some ⟨b6, off6 + 1, none⟩) (sn - 1) (sc - 1)) (.bool true) (.int .i64 ((pos + 1 : Nat) : Int)) W7 from ⟨pos + 1, _, _, ⟨if sc = 1 then some ⟨b6, off6, none⟩ else some ⟨b6, off6 + 1, none⟩, sn - 1, sc - 1⟩, t, true, hpl, rfl, rfl, rfl, F1.out, .inl ⟨rfl, hgd⟩⟩)
        clear R6 RS
        go_wp2_with fail
        try rw [hW7.out]
        go_roundw
        case rel => exact ⟨GI.out, (by first | exact fun _ => hok.out rfl | exact fun _ => hok.out trivial | exact hok.out trivial | exact hok.out rfl)⟩
        case measure => simp [intOf] <;> omega
     ·cases ws6 with
      | nil =>
       have hno := hZ (HB.out (fold_none htk.out hf.out (show takeF (⟨xk, xr, xi, xq, xd, xl, xa, xt, xn, xp, xo⟩, ([] : WS)) 116 = none from rfl)))
       have hl0 : sn = 0 := R6.out.sl.len.symm
       have hl1 : ((sn : Int) == 0) = true := by rw [hl0]; rfl
       obtain ⟨y0, y1, y2, y3, y4, y5, y6, y7, y8, y9, y10⟩ := Blk.cells11 R6.out.res
       have yf := R6.out.res.frozen
       go_wp2_with fail
       obtain ⟨wz, hwz, XZ, tZ⟩ := fin11 (.int .u8 0) (.int .i64 0) (.string ⟨#[]⟩) (.int .i64 0) (.int .i64 0) (.int .i64 0) (.int .i64 0) (.int .i64 0) (.int .i64 0) (.slice none 0 0) (.slice none 0 0) R6.out.res
       rw [hwz]
       clear hwz
       obtain ⟨e0, e1, e2, e3, e4, e5, e6, e7, e8, e9, e10⟩ := XZ.cells11
       refine bodyPost_ret (v := .tuple #[.agg #[.int .u8 0, .int .i64 0, .string ⟨#[]⟩, .int .i64 0, .int .i64 0, .int .i64 0, .int .i64 0, .int .i64 0, .int .i64 0, .slice none 0 0, .slice none 0 0], .bool false]) (by simp [results, Tryz.results69, go_sem, e0, e1, e2, e3, e4, e5, e6, e7, e8, e9, e10]) rfl ?_
       have nb := R6.out.b1
       exact ⟨AskV.zero, AskS.nil, false, rfl, AskOwn.nil _ _ _ rfl rfl, AskV.Ok.zero, hno.out, R6.out.t.trans tZ (fun _ e => e) (fun i e => .inr (by subst e; omega))⟩
      | cons y t =>
       have hl0 := R6.out.sl.len
       simp only [List.length_cons] at hl0
       have hl1 : ((sn : Int) == 0) = false := by simp; omega
       have hl2 : (0 : Int) < (sn : Int) := by omega
       obtain ⟨b6, off6, hA6, hc6⟩ := R6.out.sl.cells (show 0 < sn by omega)
       simp only at hA6 hc6
       subst hA6
       have hy : wr.cell? ⟨b6, off6, none⟩ = some (.string ⟨y.toArray⟩) := hc6 0 (by omega)
       have hyl : y.length ≤ 9223372036854775807 := by have := R6.out.mem y (by simp); unfold lenOk at this; omega
       clear hc6
       have hnum := hZ (rnumber_any ⟨y.toArray⟩ wr (by show y.toArray.size ≤ _; rw [List.size_toArray]; exact hyl))
       have hnum : Hid (Calls Tryz.prog 67 #[.string ⟨y.toArray⟩] wr (RNumPost (numL y) wr)) := by
        have e : (⟨y.toArray⟩ : ByteArray).data.toList = y := by simp
        rw [e] at hnum
        exact hnum
       have hv64 := numL_64 y
       have hTt := hZ (fun (h : (numL y).isSome = true) => show takeF (⟨xk, xr, xi, xq, xd, xl, xa, xt, xn, xp, xo⟩, (y :: t : WS)) 116 = some (⟨xk, xr, xi, xq, xd, xl, xa, ((numL y).getD 0), xn, xp, xo⟩, t) from num_take_some h (fun n => ⟨xk, xr, xi, xq, xd, xl, xa, n, xn, xp, xo⟩))
       have hTf := hZ (fun (h : (numL y).isSome = false) => show takeF (⟨xk, xr, xi, xq, xd, xl, xa, xt, xn, xp, xo⟩, (y :: t : WS)) 116 = none from num_take_none h (fun n => ⟨xk, xr, xi, xq, xd, xl, xa, n, xn, xp, xo⟩))
       go_wp2_with fail
       refine hnum.out.mono ?_
       rintro e wq ⟨rfl, rfl⟩
       clear hnum
       generalize (numL y).getD 0 = nv at *
       generalize hns : (numL y).isSome = ns at *
       clear hns
       have b0 : wr.cell? ⟨bx, 7, none⟩ = some (.int .i64 xt) := R6.out.aa.cell 7
       have f0 := R6.out.aa.frozen 7
       have RS := hZ (R6.out.store (x' := ⟨xk, xr, xi, xq, xd, xl, xa, nv, xn, xp, xo⟩) (S' := ⟨⟨PA, Pn, Pc⟩, ⟨QA, On, Oc⟩⟩) 7 (.int .i64 nv) rfl ⟨R6.out.own.parts, R6.out.own.others, R6.out.own.pB, R6.out.own.oB⟩ ⟨R6.out.ok.kind, R6.out.ok.request, R6.out.ok.item, R6.out.ok.qty, R6.out.ok.day, R6.out.ok.days, R6.out.ok.rank, hv64, R6.out.ok.line, R6.out.ok.parts, R6.out.ok.others⟩ R6.out.pN R6.out.oN)
       obtain ⟨W7, hW7⟩ : ∃ W7, wr.setCell ⟨bx, 7, none⟩ (.int .i64 nv) = W7 := ⟨_, rfl⟩
       rw [hW7] at RS
       have hW7 := hZ hW7
       have hle6 := RS.out.sl.le
       have hmx6 := RS.out.sl.max
       unfold maxLen at hmx6
       simp only at hle6 hmx6
       have hni : (1 : Int) ≤ (sn : Int) := by omega
       have F1 := hZ (show RqW w br bx ⟨xk, xr, xi, xq, xd, xl, xa, nv, xn, xp, xo⟩ ⟨⟨PA, Pn, Pc⟩, ⟨QA, On, Oc⟩⟩ ⟨if sc = 1 then some ⟨b6, off6, none⟩ else some ⟨b6, off6 + 1, none⟩, sn - 1, sc - 1⟩ t W7 from by
        by_cases h : sc = 1
        ·rw [if_pos h, h]
         exact RS.out.cut 1 (RS.out.sl.dropAll 1 (by omega) h) (fun b o e => RS.out.old b o e)
        ·rw [if_neg h]
         exact RS.out.cut 1 (RS.out.sl.dropK 1 (by omega)) (fun b o e => by injection e with e; injection e with e _; subst e; exact RS.out.old _ _ rfl))
       clear hl0
       cases ns with
       | false =>
        have hbad := HB.out (fold_none htk.out hf.out (hTf.out rfl))
        have GI := hZ (show RqRel (askW (w0 :: v0 :: ws0) = none) w br bx f x0 ws0 (.slice (if sc = 1 then some ⟨b6, off6, none⟩ else some ⟨b6, off6 + 1, none⟩) (sn - 1) (sc - 1)) (.bool false) (.int .i64 ((pos + 1 : Nat) : Int)) W7 from ⟨pos + 1, _, _, ⟨if sc = 1 then some ⟨b6, off6, none⟩ else some ⟨b6, off6 + 1, none⟩, sn - 1, sc - 1⟩, t, false, hpl, rfl, rfl, rfl, F1.out, .inr ⟨hbad, .inl rfl⟩⟩)
        clear R6 RS
        go_wp2_with fail
        try rw [hW7.out]
        go_roundw
        case rel => exact ⟨GI.out, fun e => by cases e⟩
        case measure => simp [intOf] <;> omega
       | true =>
        have hgd := fold_some htk.out hf.out (hTt.out rfl)
        have GI := hZ (show RqRel (askW (w0 :: v0 :: ws0) = none) w br bx f x0 ws0 (.slice (if sc = 1 then some ⟨b6, off6, none⟩ else some ⟨b6, off6 + 1, none⟩) (sn - 1) (sc - 1)) (.bool true) (.int .i64 ((pos + 1 : Nat) : Int)) W7 from ⟨pos + 1, _, _, ⟨if sc = 1 then some ⟨b6, off6, none⟩ else some ⟨b6, off6 + 1, none⟩, sn - 1, sc - 1⟩, t, true, hpl, rfl, rfl, rfl, F1.out, .inl ⟨rfl, hgd⟩⟩)
        clear R6 RS
        go_wp2_with fail
        try rw [hW7.out]
        go_roundw
        case rel => exact ⟨GI.out, (by first | exact fun _ => hok.out rfl | exact fun _ => hok.out trivial | exact hok.out trivial | exact hok.out rfl)⟩
        case measure => simp [intOf] <;> omega
     ·cases ws6 with
      | nil =>
       have hno := hZ (HB.out (fold_none htk.out hf.out (show takeF (⟨xk, xr, xi, xq, xd, xl, xa, xt, xn, xp, xo⟩, ([] : WS)) 110 = none from rfl)))
       have hl0 : sn = 0 := R6.out.sl.len.symm
       have hl1 : ((sn : Int) == 0) = true := by rw [hl0]; rfl
       obtain ⟨y0, y1, y2, y3, y4, y5, y6, y7, y8, y9, y10⟩ := Blk.cells11 R6.out.res
       have yf := R6.out.res.frozen
       go_wp2_with fail
       obtain ⟨wz, hwz, XZ, tZ⟩ := fin11 (.int .u8 0) (.int .i64 0) (.string ⟨#[]⟩) (.int .i64 0) (.int .i64 0) (.int .i64 0) (.int .i64 0) (.int .i64 0) (.int .i64 0) (.slice none 0 0) (.slice none 0 0) R6.out.res
       rw [hwz]
       clear hwz
       obtain ⟨e0, e1, e2, e3, e4, e5, e6, e7, e8, e9, e10⟩ := XZ.cells11
       refine bodyPost_ret (v := .tuple #[.agg #[.int .u8 0, .int .i64 0, .string ⟨#[]⟩, .int .i64 0, .int .i64 0, .int .i64 0, .int .i64 0, .int .i64 0, .int .i64 0, .slice none 0 0, .slice none 0 0], .bool false]) (by simp [results, Tryz.results69, go_sem, e0, e1, e2, e3, e4, e5, e6, e7, e8, e9, e10]) rfl ?_
       have nb := R6.out.b1
       exact ⟨AskV.zero, AskS.nil, false, rfl, AskOwn.nil _ _ _ rfl rfl, AskV.Ok.zero, hno.out, R6.out.t.trans tZ (fun _ e => e) (fun i e => .inr (by subst e; omega))⟩
      | cons y t =>
       have hl0 := R6.out.sl.len
       simp only [List.length_cons] at hl0
       have hl1 : ((sn : Int) == 0) = false := by simp; omega
       have hl2 : (0 : Int) < (sn : Int) := by omega
       obtain ⟨b6, off6, hA6, hc6⟩ := R6.out.sl.cells (show 0 < sn by omega)
       simp only at hA6 hc6
       subst hA6
       have hy : wr.cell? ⟨b6, off6, none⟩ = some (.string ⟨y.toArray⟩) := hc6 0 (by omega)
       have hyl : y.length ≤ 9223372036854775807 := by have := R6.out.mem y (by simp); unfold lenOk at this; omega
       clear hc6
       have hnum := hZ (rnumber_any ⟨y.toArray⟩ wr (by show y.toArray.size ≤ _; rw [List.size_toArray]; exact hyl))
       have hnum : Hid (Calls Tryz.prog 67 #[.string ⟨y.toArray⟩] wr (RNumPost (numL y) wr)) := by
        have e : (⟨y.toArray⟩ : ByteArray).data.toList = y := by simp
        rw [e] at hnum
        exact hnum
       have hv64 := numL_64 y
       have hTt := hZ (fun (h : (numL y).isSome = true) => show takeF (⟨xk, xr, xi, xq, xd, xl, xa, xt, xn, xp, xo⟩, (y :: t : WS)) 110 = some (⟨xk, xr, xi, xq, xd, xl, xa, xt, ((numL y).getD 0), xp, xo⟩, t) from num_take_some h (fun n => ⟨xk, xr, xi, xq, xd, xl, xa, xt, n, xp, xo⟩))
       have hTf := hZ (fun (h : (numL y).isSome = false) => show takeF (⟨xk, xr, xi, xq, xd, xl, xa, xt, xn, xp, xo⟩, (y :: t : WS)) 110 = none from num_take_none h (fun n => ⟨xk, xr, xi, xq, xd, xl, xa, xt, n, xp, xo⟩))
       go_wp2_with fail
       refine hnum.out.mono ?_
       rintro e wq ⟨rfl, rfl⟩
       clear hnum
       generalize (numL y).getD 0 = nv at *
       generalize hns : (numL y).isSome = ns at *
       clear hns
       have b0 : wr.cell? ⟨bx, 8, none⟩ = some (.int .i64 xn) := R6.out.aa.cell 8
       have f0 := R6.out.aa.frozen 8
       have RS := hZ (R6.out.store (x' := ⟨xk, xr, xi, xq, xd, xl, xa, xt, nv, xp, xo⟩) (S' := ⟨⟨PA, Pn, Pc⟩, ⟨QA, On, Oc⟩⟩) 8 (.int .i64 nv) rfl ⟨R6.out.own.parts, R6.out.own.others, R6.out.own.pB, R6.out.own.oB⟩ ⟨R6.out.ok.kind, R6.out.ok.request, R6.out.ok.item, R6.out.ok.qty, R6.out.ok.day, R6.out.ok.days, R6.out.ok.rank, R6.out.ok.lot, hv64, R6.out.ok.parts, R6.out.ok.others⟩ R6.out.pN R6.out.oN)
       obtain ⟨W7, hW7⟩ : ∃ W7, wr.setCell ⟨bx, 8, none⟩ (.int .i64 nv) = W7 := ⟨_, rfl⟩
       rw [hW7] at RS
       have hW7 := hZ hW7
       have hle6 := RS.out.sl.le
       have hmx6 := RS.out.sl.max
       unfold maxLen at hmx6
       simp only at hle6 hmx6
       have hni : (1 : Int) ≤ (sn : Int) := by omega
       have F1 := hZ (show RqW w br bx ⟨xk, xr, xi, xq, xd, xl, xa, xt, nv, xp, xo⟩ ⟨⟨PA, Pn, Pc⟩, ⟨QA, On, Oc⟩⟩ ⟨if sc = 1 then some ⟨b6, off6, none⟩ else some ⟨b6, off6 + 1, none⟩, sn - 1, sc - 1⟩ t W7 from by
        by_cases h : sc = 1
        ·rw [if_pos h, h]
         exact RS.out.cut 1 (RS.out.sl.dropAll 1 (by omega) h) (fun b o e => RS.out.old b o e)
        ·rw [if_neg h]
         exact RS.out.cut 1 (RS.out.sl.dropK 1 (by omega)) (fun b o e => by injection e with e; injection e with e _; subst e; exact RS.out.old _ _ rfl))
       clear hl0
       cases ns with
       | false =>
        have hbad := HB.out (fold_none htk.out hf.out (hTf.out rfl))
        have GI := hZ (show RqRel (askW (w0 :: v0 :: ws0) = none) w br bx f x0 ws0 (.slice (if sc = 1 then some ⟨b6, off6, none⟩ else some ⟨b6, off6 + 1, none⟩) (sn - 1) (sc - 1)) (.bool false) (.int .i64 ((pos + 1 : Nat) : Int)) W7 from ⟨pos + 1, _, _, ⟨if sc = 1 then some ⟨b6, off6, none⟩ else some ⟨b6, off6 + 1, none⟩, sn - 1, sc - 1⟩, t, false, hpl, rfl, rfl, rfl, F1.out, .inr ⟨hbad, .inl rfl⟩⟩)
        clear R6 RS
        go_wp2_with fail
        try rw [hW7.out]
        go_roundw
        case rel => exact ⟨GI.out, fun e => by cases e⟩
        case measure => simp [intOf] <;> omega
       | true =>
        have hgd := fold_some htk.out hf.out (hTt.out rfl)
        have GI := hZ (show RqRel (askW (w0 :: v0 :: ws0) = none) w br bx f x0 ws0 (.slice (if sc = 1 then some ⟨b6, off6, none⟩ else some ⟨b6, off6 + 1, none⟩) (sn - 1) (sc - 1)) (.bool true) (.int .i64 ((pos + 1 : Nat) : Int)) W7 from ⟨pos + 1, _, _, ⟨if sc = 1 then some ⟨b6, off6, none⟩ else some ⟨b6, off6 + 1, none⟩, sn - 1, sc - 1⟩, t, true, hpl, rfl, rfl, rfl, F1.out, .inl ⟨rfl, hgd⟩⟩)
        clear R6 RS
        go_wp2_with fail
        try rw [hW7.out]
        go_roundw
        case rel => exact ⟨GI.out, (by first | exact fun _ => hok.out rfl | exact fun _ => hok.out trivial | exact hok.out trivial | exact hok.out rfl)⟩
        case measure => simp [intOf] <;> omega
     ·have hlast := fold_last hfk htk.out hpl (.inl rfl)
      have hT0 := hZ (show ok0 = true from (by first | exact hok.out rfl | exact hok.out trivial))
      have hst2 := hZ (show PRel2 w br bx ⟨xk, xr, xi, xq, xd, xl, xa, xt, xn, xp, xo⟩ ws6 (.slice sA sn sc) (.bool true) wr from ⟨[], ⟨⟨PA, Pn, Pc⟩, ⟨QA, On, Oc⟩⟩, ⟨sA, sn, sc⟩, ws6, true, rfl, rfl, by rw [List.append_nil]; exact R6.out, .inl ⟨rfl, by cases partsW ws6 <;> rfl⟩⟩)
      clear R6
      go_wp2_with fail
      go_loopw [0, 7] (fun l ok w7 => PRel2 w br bx ⟨xk, xr, xi, xq, xd, xl, xa, xt, xn, xp, xo⟩ ws6 l ok w7) (fun l ok _ => sliceLen l)
      case atStart => exact hst2.out
      case round =>
       obtain ⟨ps, ⟨⟨PA, Pn, Pc⟩, ⟨QA, On, Oc⟩⟩, ⟨sA7, sn7, sc7⟩, ws7, b7, rfl, rfl, R7z, hqz⟩ := hrel
       have R7z : RqW w br bx ⟨xk, xr, xi, xq, xd, xl, xa, xt, xn, xp ++ ps, xo⟩ ⟨⟨PA, Pn, Pc⟩, ⟨QA, On, Oc⟩⟩ ⟨sA7, sn7, sc7⟩ ws7 _ := R7z
       have R7 := hZ R7z
       have hq := hZ hqz
       clear R7z hqz hst2
       have hl7 := R7.out.sl.len
       simp only at hl7
       have hl7 := hZ hl7
       cases b7 with
       | false =>
        have hpn : partsW ws6 = none := by
         rcases hq.out with ⟨h1, _⟩ | ⟨_, h1⟩
         ·cases h1
         ·exact h1
        have hbad := HB.out (fold_none htk.out hf.out (show takeF (⟨xk, xr, xi, xq, xd, xl, xa, xt, xn, xp, xo⟩, ws6) 112 = none from by
         show (partsW ws6).map _ = none
         rw [hpn]
         rfl))
        have hl2 : True := trivial
        by_cases h2 : (2 : Int) ≤ (sn7 : Int)
        ·have FI := hZ (show RqRel (askW (w0 :: v0 :: ws0) = none) w br bx f x0 ws0 (.slice sA7 sn7 sc7) (.bool false) (.int .i64 ((pos + 1 : Nat) : Int)) _ from ⟨pos + 1, _, _, ⟨sA7, sn7, sc7⟩, _, false, hpl, rfl, rfl, rfl, R7.out, .inr ⟨hbad, .inl rfl⟩⟩)
         go_wp2_with fail
         go_roundw
         case rel => exact ⟨FI.out, fun _ => hT0.out⟩
         case measure => simp [intOf] <;> omega
        ·have FI := hZ (show RqRel (askW (w0 :: v0 :: ws0) = none) w br bx f x0 ws0 (.slice sA7 sn7 sc7) (.bool false) (.int .i64 ((pos + 1 : Nat) : Int)) _ from ⟨pos + 1, _, _, ⟨sA7, sn7, sc7⟩, _, false, hpl, rfl, rfl, rfl, R7.out, .inr ⟨hbad, .inl rfl⟩⟩)
         go_wp2_with fail
         go_roundw
         case rel => exact ⟨FI.out, fun _ => hT0.out⟩
         case measure => simp [intOf] <;> omega
       | true =>
        have hq1 : partsW ws6 = (match partsW ws7 with
         | none => none
         | some r => some (ps ++ r)) := by
         rcases hq.out with ⟨_, h1⟩ | ⟨h1, _⟩
         ·exact h1
         ·cases h1
        clear hq
        match ws7, R7, hl7, hq1 with
        | [], R7, hl7, hq1 =>
         have hgd := fold_some htk.out hf.out (show takeF (⟨xk, xr, xi, xq, xd, xl, xa, xt, xn, xp, xo⟩, ws6) 112 = some (⟨xk, xr, xi, xq, xd, xl, xa, xt, xn, xp ++ ps, xo⟩, []) from by
          show (partsW ws6).map _ = _
          rw [hq1]
          simp [partsW])
         have h2 : ¬ (2 : Int) ≤ (sn7 : Int) := by have := hl7.out; simp only [List.length_nil] at this; omega
         have hq1 := hZ hq1
         have FI := hZ (show RqRel (askW (w0 :: v0 :: ws0) = none) w br bx f x0 ws0 (.slice sA7 sn7 sc7) (.bool true) (.int .i64 ((pos + 1 : Nat) : Int)) _ from ⟨pos + 1, _, _, ⟨sA7, sn7, sc7⟩, _, true, hpl, rfl, rfl, rfl, R7.out, .inl ⟨rfl, hgd⟩⟩)
         go_wp2_with fail
         go_roundw
         case rel => exact ⟨FI.out, fun _ => hT0.out⟩
         case measure => simp [intOf] <;> omega
        | [y], R7, hl7, hq1 =>
         have hpn : partsW ws6 = none := by rw [hq1]; rfl
         have hbad := HB.out (fold_none htk.out hf.out (show takeF (⟨xk, xr, xi, xq, xd, xl, xa, xt, xn, xp, xo⟩, ws6) 112 = none from by
          show (partsW ws6).map _ = none
          rw [hpn]
          rfl))
         have h2 : ¬ (2 : Int) ≤ (sn7 : Int) := by have := hl7.out; simp only [List.length_cons, List.length_nil] at this; omega
         have hq1 := hZ hq1
         have hpn := hZ hpn
         have FI := hZ (show RqRel (askW (w0 :: v0 :: ws0) = none) w br bx f x0 ws0 (.slice sA7 sn7 sc7) (.bool true) (.int .i64 ((pos + 1 : Nat) : Int)) _ from ⟨pos + 1, _, _, ⟨sA7, sn7, sc7⟩, _, true, hpl, rfl, rfl, rfl, R7.out, .inr ⟨hbad, .inr ⟨by simp, hlast⟩⟩⟩)
         go_wp2_with fail
         go_roundw
         case rel => exact ⟨FI.out, fun _ => hT0.out⟩
         case measure => simp [intOf] <;> omega
        | y :: v :: t, R7, hl7, hq1 =>
         have hps := hZ (parts_step hq1)
         clear hq1
         have hl8z : sn7 = t.length + 2 := by have := hl7.out; simp only [List.length_cons] at this; omega
         have h2 : (2 : Int) ≤ (sn7 : Int) := by omega
         have h1 : (1 : Int) < (sn7 : Int) := by omega
         have h0 : (0 : Int) < (sn7 : Int) := by omega
         have h0n : 0 < sn7 := by omega
         have h1n : 1 < sn7 := by omega
         obtain ⟨b7, off7, hA7, hc7⟩ := R7.out.sl.cells (show 0 < sn7 by omega)
         simp only at hA7 hc7
         have hb7 := R7.out.old b7 off7 hA7
         subst hA7
         have hy0 : _ = some (Value.string ⟨y.toArray⟩) := hc7 0 (by omega)
         have hy1 : _ = some (Value.string ⟨v.toArray⟩) := hc7 1 (by omega)
         clear hc7
         simp only [Nat.add_zero] at hy0
         have hvl : v.length ≤ 9223372036854775807 := by have := R7.out.mem v (by simp); unfold lenOk at this; omega
         have hyk : strOk y := by have := R7.out.mem y (by simp); unfold lenOk at this; unfold strOk; omega
         have hv64 := numL_64 v
         have hnum2 := hZ (fun W => rnumber_any ⟨v.toArray⟩ W (by show v.toArray.size ≤ _; rw [List.size_toArray]; exact hvl))
         have hnum2 : Hid (∀ W, Calls Tryz.prog 67 #[.string ⟨v.toArray⟩] W (RNumPost (numL v) W)) := by
          have e : (⟨v.toArray⟩ : ByteArray).data.toList = v := by simp
          rw [e] at hnum2
          exact hnum2
         have hle7 := R7.out.sl.le
         have hmx7 := R7.out.sl.max
         unfold maxLen at hmx7
         simp only at hle7 hmx7
         have hl8 := hZ hl8z
         clear hl8z
         go_wp2_with fail
         refine (hnum2.out _).mono ?_
         rintro e wq ⟨rfl, rfl⟩
         clear hnum2
         generalize (numL v).getD 0 = nv at *
         generalize hns : (numL v).isSome = ns at *
         clear hns
         go_wp2_with fail
         skip
         refine wp_region_ts (fun W' => W'.cell? ⟨b7, off7, none⟩ = some (.string ⟨y.toArray⟩)) (tsT [0, 2, 3, 4, 5, 6] (.two 1 7 (.run 7 (.run 8 (.take 9 (.run 10 .nil)))) (.run 1 (.run 8 (.take 9 (.run 10 .nil)))))) mixed (by kernel_rfl) (fun _ _ _ _ _ h => h) ?_
         simp only [tsT, tsF, List.foldr_cons, List.foldr_nil, Ts.map, zI, zJ]
         have DD := R7.out.fresh ((Turned.refl (fun _ => False) _).drew)
         have DD := hZ DD
         have hS0 := cell_turned ((Turned.refl (fun _ => False) _).drew) hy0 (fun e => e)
         obtain ⟨wd, hwd⟩ : ∃ wd, wd = wr.drew := ⟨_, rfl⟩
         rw [← hwd] at DD hS0 ⊢
         clear hwd
         have hS := hS0
         iterate 6 (refine ts_take (v := ?_) hS rfl (fun w' hw => ?_) ?_; rotate_left; (focus (go_simp; (try with_reducible rfl); done)); try simp only [Act.put, zA, zB, zC])
         have hPn := hZ (show (xp ++ ps).length = Pn from by
          have h5 := DD.out.own.parts.len
          rw [partC_length] at h5
          simp only at h5
          omega)
         refine ts_two ?_ ?_
         ·refine now_run rfl (fun K hK => ?_)
          have x9 : wd.cell? ⟨bx, 9, none⟩ = some (Value.slice PA Pn Pc) := DD.out.aa.cell 9
          go_simp
          refine hK.out _ _ hS0 ?_
          clear hK K x9
          refine ts_run rfl (fun K hK => ?_)
          go_simp
          refine hK.out _ _ (cell_turned ((Turned.refl (fun _ => False) wd).alloc (.cells #[.string ⟨y.toArray⟩, .int .i64 nv] 62)) hS0 (fun e => e)) ?_
          clear hK K
          refine ts_run rfl (fun K hK => ?_)
          refine wp_appE partT (.tmp 66) (.tmp 72) rfl (show OwnE _ 62 2 PA Pn Pc (partC (xp ++ ps)) from DD.out.own.parts.fresh ((Turned.refl (fun _ => False) wd).alloc (.cells #[.string ⟨y.toArray⟩, .int .i64 nv] 62))) ⟨wd.heap.size, 0, none⟩ 1 1 [.string ⟨y.toArray⟩, .int .i64 nv] rfl (news_new2 wd 62 _ _) (by simp [Value.oneCell']) (by omega) (by have := hPn.out; have := DD.out.pN; simp only [List.length_cons] at this; unfold maxLen; omega) (by have := hPn.out; have := DD.out.pN; simp only [List.length_cons] at this; omega) rfl rfl ?_
          intro A9 c9 W9 ho9 hor9
          have D6 := hZ (DD.out.fresh ((Turned.refl (fun _ => False) wd).alloc (.cells #[.string ⟨y.toArray⟩, .int .i64 nv] 62)))
          have hAA := D6.out.aa.turned hor9.turned (fun e => D6.out.own.parts.blk D6.out.aa (by decide) e rfl)
          have y9 : _ = some (Value.slice PA Pn Pc) := hAA.cell 9
          have yf := hAA.frozen 9
          have hS := cell_turned hor9.turned (cell_turned ((Turned.refl (fun _ => False) wd).alloc (.cells #[.string ⟨y.toArray⟩, .int .i64 nv] 62)) hS0 (fun e => e)) (fun e => by have e5 : w.heap.size ≤ b7 := DD.out.own.pB _ e; omega)
          refine hK.out _ _ hS ?_
          clear hK K
          try simp only [Act.put, zA, zB, zC]
          have D7 := D6.out.cut (s' := ⟨(if sc7 = 2 then some ⟨b7, off7, none⟩ else some ⟨b7, off7 + 2, none⟩), sn7 - 2, sc7 - 2⟩) 2 (by
           by_cases h : sc7 = 2
           ·rw [if_pos h, h]
            exact D6.out.sl.dropAll 2 (by omega) h
           ·rw [if_neg h]
            exact D6.out.sl.dropK 2 (by omega)) (fun b o e => by
           by_cases h : sc7 = 2
           ·rw [if_pos h] at e; injection e with e; injection e with e _; subst e; exact hb7
           ·rw [if_neg h] at e; injection e with e; injection e with e _; subst e; exact hb7)
          have D7 : RqW w br bx ⟨xk, xr, xi, xq, xd, xl, xa, xt, xn, xp ++ ps, xo⟩ ⟨⟨PA, Pn, Pc⟩, ⟨QA, On, Oc⟩⟩ ⟨(if sc7 = 2 then some ⟨b7, off7, none⟩ else some ⟨b7, off7 + 2, none⟩), sn7 - 2, sc7 - 2⟩ t _ := D7
          have D7 := hZ D7
          have R9 := hZ (D7.out.grow (x' := ⟨xk, xr, xi, xq, xd, xl, xa, xt, xn, xp ++ (ps ++ [(y, nv)]), xo⟩) (S' := ⟨⟨A9, Pn + 1, c9⟩, ⟨QA, On, Oc⟩⟩) hor9.turned (fun i e => .inl e) 9 (.slice A9 (Pn + 1) c9) rfl ⟨by rw [← List.append_assoc, partC_append]; exact ho9, D6.out.own.others.turned hor9.turned (fun g e e2 => by
           obtain ⟨b1, r1⟩ := (e ▸ D6.out.own.others : OwnE _ 9 1 (some ⟨g, 0, none⟩) On Oc _).row.row
           exact D6.out.own.parts.blk r1.1 (by decide) e2 rfl), fun g e => (hor9.at_ (Nat.le_trans DD.out.t.size (by simp))).elim (fun h => DD.out.own.pB g (by rw [← h.1]; exact e)) (fun ⟨g2, h1, h2⟩ => by
           have e : A9 = _ := e
           rw [h1] at e; injection e with e; injection e with e; omega), DD.out.own.oB⟩ ⟨D6.out.ok.kind, D6.out.ok.request, D6.out.ok.item, D6.out.ok.qty, D6.out.ok.day, D6.out.ok.days, D6.out.ok.rank, D6.out.ok.lot, D6.out.ok.line, (fun p hp => by
           rw [← List.append_assoc] at hp
           rcases List.mem_append.1 hp with hp | hp
           ·exact D6.out.ok.parts p hp
           ·simp only [List.mem_singleton] at hp
            subst hp
            exact ⟨hyk, hv64⟩), D6.out.ok.others⟩ (by
           have h5 := DD.out.pN
           simp only [List.length_cons, List.length_append] at h5
           show (xp ++ (ps ++ [(y, nv)])).length + t.length ≤ 1000000
           simp only [List.length_append, List.length_cons, List.length_nil]
           omega) D7.out.oN)
          clear hAA ho9 hor9 D6 D7
          (refine ts_take (v := ?_) hS rfl (fun w' hw => ?_) ?_; rotate_left; (focus (go_simp; (try with_reducible rfl); done)); try simp only [Act.put, zA, zB, zC])
          refine ts_run rfl (fun K hK => ?_)
          go_simp
          have hS_ := cell_turned (turned_one W9 bx 9 (.slice A9 (Pn + 1) c9)) hS (fun e => by have e5 : b7 = bx := e; have := DD.out.b1; have := DD.out.b2; omega)
          have hS := hS_
          refine hK.out _ _ hS ?_
          clear hK K
          refine ts_nil ?_
          generalize W9.setCell ⟨bx, 9, none⟩ (.slice A9 (Pn + 1) c9) = W10 at *
          have FI := hZ (show PRel2 w br bx ⟨xk, xr, xi, xq, xd, xl, xa, xt, xn, xp, xo⟩ ws6 (.slice (if sc7 = 2 then some ⟨b7, off7, none⟩ else some ⟨b7, off7 + 2, none⟩) (sn7 - 2) (sc7 - 2)) (.bool ns) W10 from ⟨ps ++ [(y, nv)], ⟨⟨A9, Pn + 1, c9⟩, ⟨QA, On, Oc⟩⟩, ⟨(if sc7 = 2 then some ⟨b7, off7, none⟩ else some ⟨b7, off7 + 2, none⟩), sn7 - 2, sc7 - 2⟩, t, ns, rfl, rfl, R9.out, hps.out⟩)
          clear R9 y9 yf DD
          go_wp2_with fail
          go_roundw
          case rel => exact FI.out
          case measure => simp [sliceLen] <;> omega
         ·refine now_run rfl (fun K hK => ?_)
          go_simp
          refine hK.out _ _ (cell_turned ((Turned.refl (fun _ => False) wd).alloc (.cells #[.string ⟨y.toArray⟩, .int .i64 nv] 62)) hS0 (fun e => e)) ?_
          clear hK K
          refine ts_run rfl (fun K hK => ?_)
          have x9 : _ = some (Value.slice PA Pn Pc) := (DD.out.fresh ((Turned.refl (fun _ => False) wd).alloc (.cells #[.string ⟨y.toArray⟩, .int .i64 nv] 62))).aa.cell 9
          go_simp
          refine hK.out _ _ (cell_turned ((Turned.refl (fun _ => False) wd).alloc (.cells #[.string ⟨y.toArray⟩, .int .i64 nv] 62)) hS0 (fun e => e)) ?_
          clear hK K x9
          refine ts_run rfl (fun K hK => ?_)
          refine wp_appE partT (.tmp 66) (.tmp 72) rfl (show OwnE _ 62 2 PA Pn Pc (partC (xp ++ ps)) from DD.out.own.parts.fresh ((Turned.refl (fun _ => False) wd).alloc (.cells #[.string ⟨y.toArray⟩, .int .i64 nv] 62))) ⟨wd.heap.size, 0, none⟩ 1 1 [.string ⟨y.toArray⟩, .int .i64 nv] rfl (news_new2 wd 62 _ _) (by simp [Value.oneCell']) (by omega) (by have := hPn.out; have := DD.out.pN; simp only [List.length_cons] at this; unfold maxLen; omega) (by have := hPn.out; have := DD.out.pN; simp only [List.length_cons] at this; omega) rfl rfl ?_
          intro A9 c9 W9 ho9 hor9
          have D6 := hZ (DD.out.fresh ((Turned.refl (fun _ => False) wd).alloc (.cells #[.string ⟨y.toArray⟩, .int .i64 nv] 62)))
          have hAA := D6.out.aa.turned hor9.turned (fun e => D6.out.own.parts.blk D6.out.aa (by decide) e rfl)
          have y9 : _ = some (Value.slice PA Pn Pc) := hAA.cell 9
          have yf := hAA.frozen 9
          have hS := cell_turned hor9.turned (cell_turned ((Turned.refl (fun _ => False) wd).alloc (.cells #[.string ⟨y.toArray⟩, .int .i64 nv] 62)) hS0 (fun e => e)) (fun e => by have e5 : w.heap.size ≤ b7 := DD.out.own.pB _ e; omega)
          refine hK.out _ _ hS ?_
          clear hK K
          try simp only [Act.put, zA, zB, zC]
          have D7 := D6.out.cut (s' := ⟨(if sc7 = 2 then some ⟨b7, off7, none⟩ else some ⟨b7, off7 + 2, none⟩), sn7 - 2, sc7 - 2⟩) 2 (by
           by_cases h : sc7 = 2
           ·rw [if_pos h, h]
            exact D6.out.sl.dropAll 2 (by omega) h
           ·rw [if_neg h]
            exact D6.out.sl.dropK 2 (by omega)) (fun b o e => by
           by_cases h : sc7 = 2
           ·rw [if_pos h] at e; injection e with e; injection e with e _; subst e; exact hb7
           ·rw [if_neg h] at e; injection e with e; injection e with e _; subst e; exact hb7)
          have D7 : RqW w br bx ⟨xk, xr, xi, xq, xd, xl, xa, xt, xn, xp ++ ps, xo⟩ ⟨⟨PA, Pn, Pc⟩, ⟨QA, On, Oc⟩⟩ ⟨(if sc7 = 2 then some ⟨b7, off7, none⟩ else some ⟨b7, off7 + 2, none⟩), sn7 - 2, sc7 - 2⟩ t _ := D7
          have D7 := hZ D7
          have R9 := hZ (D7.out.grow (x' := ⟨xk, xr, xi, xq, xd, xl, xa, xt, xn, xp ++ (ps ++ [(y, nv)]), xo⟩) (S' := ⟨⟨A9, Pn + 1, c9⟩, ⟨QA, On, Oc⟩⟩) hor9.turned (fun i e => .inl e) 9 (.slice A9 (Pn + 1) c9) rfl ⟨by rw [← List.append_assoc, partC_append]; exact ho9, D6.out.own.others.turned hor9.turned (fun g e e2 => by
           obtain ⟨b1, r1⟩ := (e ▸ D6.out.own.others : OwnE _ 9 1 (some ⟨g, 0, none⟩) On Oc _).row.row
           exact D6.out.own.parts.blk r1.1 (by decide) e2 rfl), fun g e => (hor9.at_ (Nat.le_trans DD.out.t.size (by simp))).elim (fun h => DD.out.own.pB g (by rw [← h.1]; exact e)) (fun ⟨g2, h1, h2⟩ => by
           have e : A9 = _ := e
           rw [h1] at e; injection e with e; injection e with e; omega), DD.out.own.oB⟩ ⟨D6.out.ok.kind, D6.out.ok.request, D6.out.ok.item, D6.out.ok.qty, D6.out.ok.day, D6.out.ok.days, D6.out.ok.rank, D6.out.ok.lot, D6.out.ok.line, (fun p hp => by
           rw [← List.append_assoc] at hp
           rcases List.mem_append.1 hp with hp | hp
           ·exact D6.out.ok.parts p hp
           ·simp only [List.mem_singleton] at hp
            subst hp
            exact ⟨hyk, hv64⟩), D6.out.ok.others⟩ (by
           have h5 := DD.out.pN
           simp only [List.length_cons, List.length_append] at h5
           show (xp ++ (ps ++ [(y, nv)])).length + t.length ≤ 1000000
           simp only [List.length_append, List.length_cons, List.length_nil]
           omega) D7.out.oN)
          clear hAA ho9 hor9 D6 D7
          (refine ts_take (v := ?_) hS rfl (fun w' hw => ?_) ?_; rotate_left; (focus (go_simp; (try with_reducible rfl); done)); try simp only [Act.put, zA, zB, zC])
          refine ts_run rfl (fun K hK => ?_)
          go_simp
          have hS_ := cell_turned (turned_one W9 bx 9 (.slice A9 (Pn + 1) c9)) hS (fun e => by have e5 : b7 = bx := e; have := DD.out.b1; have := DD.out.b2; omega)
          have hS := hS_
          refine hK.out _ _ hS ?_
          clear hK K
          refine ts_nil ?_
          generalize W9.setCell ⟨bx, 9, none⟩ (.slice A9 (Pn + 1) c9) = W10 at *
          have FI := hZ (show PRel2 w br bx ⟨xk, xr, xi, xq, xd, xl, xa, xt, xn, xp, xo⟩ ws6 (.slice (if sc7 = 2 then some ⟨b7, off7, none⟩ else some ⟨b7, off7 + 2, none⟩) (sn7 - 2) (sc7 - 2)) (.bool ns) W10 from ⟨ps ++ [(y, nv)], ⟨⟨A9, Pn + 1, c9⟩, ⟨QA, On, Oc⟩⟩, ⟨(if sc7 = 2 then some ⟨b7, off7, none⟩ else some ⟨b7, off7 + 2, none⟩), sn7 - 2, sc7 - 2⟩, t, ns, rfl, rfl, R9.out, hps.out⟩)
          clear R9 y9 yf DD
          go_wp2_with fail
          go_roundw
          case rel => exact FI.out
          case measure => simp [sliceLen] <;> omega
     ·have R6c := R6.out.cut (s' := Sl.nil) ws6.length (by rw [List.drop_length]; exact ⟨CelR.none_ _, rfl, fun _ => ⟨rfl, rfl⟩, Nat.le_refl _, Nat.zero_le _⟩) (fun b o e => by cases e)
      rw [List.drop_length] at R6c
      have R6c := hZ R6c
      have y10 : wr.cell? ⟨bx, 10, none⟩ = some (.slice QA On Oc) := R6.out.aa.cell 10
      have f10 := R6.out.aa.frozen 10
      have hl0 := R6.out.sl.len
      simp only at hl0
      have hlN : xo.length = On := by
       have h5 := R6.out.own.others.len
       rw [textC_length] at h5
       simp only at h5
       omega
      have hoN := R6.out.oN
      simp only at hoN
      have hlN := hZ hlN
      have hl0 := hZ hl0
      by_cases hz : sn = 0
      ·obtain rfl : ws6 = [] := List.length_eq_zero_iff.1 (by rw [hl0.out]; exact hz)
       have hcz : sA = none → sc = 0 := fun e => (R6.out.sl.nil_ e).2
       subst hz
       rcases R6.out.own.others.row_or with ⟨q1, q2, q3, q4⟩ | ⟨g7, q1, q2⟩
       ·simp only at q1 q2 q3
        subst q1 q2 q3
        cases sA with
        | none =>
         obtain rfl := hcz rfl
         go_wp2_with fail
         have R9 := hZ (show RqW w br bx ⟨xk, xr, xi, xq, xd, xl, xa, xt, xn, xp, xo ++ []⟩ ⟨⟨PA, Pn, Pc⟩, ⟨none, 0, 0⟩⟩ Sl.nil [] (wr.setCell ⟨bx, 10, none⟩ (.slice none 0 0)) from R6c.out.store 10 _ rfl ⟨R6.out.own.parts, by rw [List.append_nil]; exact R6.out.own.others, R6.out.own.pB, R6.out.own.oB⟩ ⟨R6.out.ok.kind, R6.out.ok.request, R6.out.ok.item, R6.out.ok.qty, R6.out.ok.day, R6.out.ok.days, R6.out.ok.rank, R6.out.ok.lot, R6.out.ok.line, R6.out.ok.parts, (by rw [List.append_nil]; exact R6.out.ok.others)⟩ R6c.out.pN (by rw [List.append_nil]; exact R6c.out.oN))
         have FI := hZ (show RqRel (askW (w0 :: v0 :: ws0) = none) w br bx f x0 ws0 (.slice none 0 0) (.bool true) (.int .i64 ((pos + 1 : Nat) : Int)) (wr.setCell ⟨bx, 10, none⟩ (.slice none 0 0)) from ⟨pos + 1, _, _, Sl.nil, [], true, hpl, rfl, rfl, rfl, R9.out, .inl ⟨rfl, fold_some htk.out hf.out (show takeF (⟨xk, xr, xi, xq, xd, xl, xa, xt, xn, xp, xo⟩, ([] : WS)) 111 = some (⟨xk, xr, xi, xq, xd, xl, xa, xt, xn, xp, xo ++ []⟩, []) from rfl)⟩⟩)
         go_roundw
         case rel => exact ⟨FI.out, (by first | exact fun _ => hok.out rfl | exact fun _ => hok.out trivial | exact hok.out trivial | exact hok.out rfl)⟩
         case measure => simp [intOf] <;> omega
        | some aA =>
         go_wp2_with fail
         have R9 := hZ (show RqW w br bx ⟨xk, xr, xi, xq, xd, xl, xa, xt, xn, xp, xo ++ []⟩ ⟨⟨PA, Pn, Pc⟩, ⟨none, 0, 0⟩⟩ Sl.nil [] (wr.setCell ⟨bx, 10, none⟩ (.slice none 0 0)) from R6c.out.store 10 _ rfl ⟨R6.out.own.parts, by rw [List.append_nil]; exact R6.out.own.others, R6.out.own.pB, R6.out.own.oB⟩ ⟨R6.out.ok.kind, R6.out.ok.request, R6.out.ok.item, R6.out.ok.qty, R6.out.ok.day, R6.out.ok.days, R6.out.ok.rank, R6.out.ok.lot, R6.out.ok.line, R6.out.ok.parts, (by rw [List.append_nil]; exact R6.out.ok.others)⟩ R6c.out.pN (by rw [List.append_nil]; exact R6c.out.oN))
         have FI := hZ (show RqRel (askW (w0 :: v0 :: ws0) = none) w br bx f x0 ws0 (.slice none 0 0) (.bool true) (.int .i64 ((pos + 1 : Nat) : Int)) (wr.setCell ⟨bx, 10, none⟩ (.slice none 0 0)) from ⟨pos + 1, _, _, Sl.nil, [], true, hpl, rfl, rfl, rfl, R9.out, .inl ⟨rfl, fold_some htk.out hf.out (show takeF (⟨xk, xr, xi, xq, xd, xl, xa, xt, xn, xp, xo⟩, ([] : WS)) 111 = some (⟨xk, xr, xi, xq, xd, xl, xa, xt, xn, xp, xo ++ []⟩, []) from rfl)⟩⟩)
         go_roundw
         case rel => exact ⟨FI.out, (by first | exact fun _ => hok.out rfl | exact fun _ => hok.out trivial | exact hok.out trivial | exact hok.out rfl)⟩
         case measure => simp [intOf] <;> omega
       ·simp only at q1
        subst q1
        have q7 : On ≤ Oc := q2.le
        have q8 : (On : Int) ≤ (Oc : Int) := by omega
        cases sA with
        | none =>
         obtain rfl := hcz rfl
         go_wp2_with fail
         have R9 := hZ (show RqW w br bx ⟨xk, xr, xi, xq, xd, xl, xa, xt, xn, xp, xo ++ []⟩ ⟨⟨PA, Pn, Pc⟩, ⟨some ⟨g7, 0, none⟩, On, Oc⟩⟩ Sl.nil [] (wr.setCell ⟨bx, 10, none⟩ (.slice (some ⟨g7, 0, none⟩) On Oc)) from R6c.out.store 10 _ rfl ⟨R6.out.own.parts, by rw [List.append_nil]; exact R6.out.own.others, R6.out.own.pB, R6.out.own.oB⟩ ⟨R6.out.ok.kind, R6.out.ok.request, R6.out.ok.item, R6.out.ok.qty, R6.out.ok.day, R6.out.ok.days, R6.out.ok.rank, R6.out.ok.lot, R6.out.ok.line, R6.out.ok.parts, (by rw [List.append_nil]; exact R6.out.ok.others)⟩ R6c.out.pN (by rw [List.append_nil]; exact R6c.out.oN))
         have FI := hZ (show RqRel (askW (w0 :: v0 :: ws0) = none) w br bx f x0 ws0 (.slice none 0 0) (.bool true) (.int .i64 ((pos + 1 : Nat) : Int)) (wr.setCell ⟨bx, 10, none⟩ (.slice (some ⟨g7, 0, none⟩) On Oc)) from ⟨pos + 1, _, _, Sl.nil, [], true, hpl, rfl, rfl, rfl, R9.out, .inl ⟨rfl, fold_some htk.out hf.out (show takeF (⟨xk, xr, xi, xq, xd, xl, xa, xt, xn, xp, xo⟩, ([] : WS)) 111 = some (⟨xk, xr, xi, xq, xd, xl, xa, xt, xn, xp, xo ++ []⟩, []) from rfl)⟩⟩)
         go_roundw
         case rel => exact ⟨FI.out, (by first | exact fun _ => hok.out rfl | exact fun _ => hok.out trivial | exact hok.out trivial | exact hok.out rfl)⟩
         case measure => simp [intOf] <;> omega
        | some aA =>
         go_wp2_with fail
         have R9 := hZ (show RqW w br bx ⟨xk, xr, xi, xq, xd, xl, xa, xt, xn, xp, xo ++ []⟩ ⟨⟨PA, Pn, Pc⟩, ⟨some ⟨g7, 0, none⟩, On, Oc⟩⟩ Sl.nil [] (wr.setCell ⟨bx, 10, none⟩ (.slice (some ⟨g7, 0, none⟩) On Oc)) from R6c.out.store 10 _ rfl ⟨R6.out.own.parts, by rw [List.append_nil]; exact R6.out.own.others, R6.out.own.pB, R6.out.own.oB⟩ ⟨R6.out.ok.kind, R6.out.ok.request, R6.out.ok.item, R6.out.ok.qty, R6.out.ok.day, R6.out.ok.days, R6.out.ok.rank, R6.out.ok.lot, R6.out.ok.line, R6.out.ok.parts, (by rw [List.append_nil]; exact R6.out.ok.others)⟩ R6c.out.pN (by rw [List.append_nil]; exact R6c.out.oN))
         have FI := hZ (show RqRel (askW (w0 :: v0 :: ws0) = none) w br bx f x0 ws0 (.slice none 0 0) (.bool true) (.int .i64 ((pos + 1 : Nat) : Int)) (wr.setCell ⟨bx, 10, none⟩ (.slice (some ⟨g7, 0, none⟩) On Oc)) from ⟨pos + 1, _, _, Sl.nil, [], true, hpl, rfl, rfl, rfl, R9.out, .inl ⟨rfl, fold_some htk.out hf.out (show takeF (⟨xk, xr, xi, xq, xd, xl, xa, xt, xn, xp, xo⟩, ([] : WS)) 111 = some (⟨xk, xr, xi, xq, xd, xl, xa, xt, xn, xp, xo ++ []⟩, []) from rfl)⟩⟩)
         go_roundw
         case rel => exact ⟨FI.out, (by first | exact fun _ => hok.out rfl | exact fun _ => hok.out trivial | exact hok.out trivial | exact hok.out rfl)⟩
         case measure => simp [intOf] <;> omega
      ·have hsn : 0 < sn := by omega
       obtain ⟨b6, off6, hA6, _⟩ := R6.out.sl.cells hsn
       simp only at hA6
       have hnw := R6.out.sl.cel.news ⟨b6, off6, none⟩ hA6
       subst hA6
       have hnw := hZ hnw
       go_wp2_with (at_builtin; refine wpList_appE textT rfl (.tmp 81) (.tmp 82) rfl (show OwnE _ 9 1 QA On Oc (textC xo) from R6.out.own.others) ⟨b6, off6, none⟩ sn sc (textC ws6) (by rw [textC_length, hl0.out, Nat.mul_one]) hnw.out (textC_one ws6) hsn (by have := hlN.out; have := hl0.out; unfold maxLen; omega) (by have := hlN.out; have := hl0.out; omega) rfl rfl ?_; intro A9 c9 W9 ho9 hor9; have hXX := R6.out.aa.turned hor9.turned (fun e => R6.out.own.others.blk R6.out.aa (by decide) e rfl); have y9 : _ = some (Value.slice QA On Oc) := hXX.cell 10; have yf := hXX.frozen 10)
       have R9 := hZ (show RqW w br bx ⟨xk, xr, xi, xq, xd, xl, xa, xt, xn, xp, xo ++ ws6⟩ ⟨⟨PA, Pn, Pc⟩, ⟨A9, On + sn, c9⟩⟩ Sl.nil [] (W9.setCell ⟨bx, 10, none⟩ (.slice A9 (On + sn) c9)) from R6c.out.grow hor9.turned (fun i e => .inr e) 10 _ rfl ⟨R6.out.own.parts.turned hor9.turned (fun g e e2 => by
        obtain ⟨b1, r1⟩ := (e2 ▸ R6.out.own.others : OwnE _ 9 1 (some ⟨g, 0, none⟩) On Oc _).row.row
        exact R6.out.own.parts.blk r1.1 (by decide) e rfl), by rw [textC_append]; exact ho9, R6.out.own.pB, fun g e => (hor9.at_ R6.out.t.size).elim (fun h => R6.out.own.oB g (by rw [← h.1]; exact e)) (fun ⟨g2, h1, h2⟩ => by
        have e : A9 = _ := e
        rw [h1] at e; injection e with e; injection e with e; omega)⟩ ⟨R6.out.ok.kind, R6.out.ok.request, R6.out.ok.item, R6.out.ok.qty, R6.out.ok.day, R6.out.ok.days, R6.out.ok.rank, R6.out.ok.lot, R6.out.ok.line, R6.out.ok.parts, (fun p hp => by
        rcases List.mem_append.1 hp with hp | hp
        ·exact R6.out.ok.others p hp
        ·have := R6.out.mem p hp
         unfold lenOk at this
         unfold strOk
         omega)⟩ R6c.out.pN (by
        show (xo ++ ws6).length + 0 ≤ 1000000
        rw [List.length_append]
        omega))
       have FI := hZ (show RqRel (askW (w0 :: v0 :: ws0) = none) w br bx f x0 ws0 (.slice none 0 0) (.bool true) (.int .i64 ((pos + 1 : Nat) : Int)) (W9.setCell ⟨bx, 10, none⟩ (.slice A9 (On + sn) c9)) from ⟨pos + 1, _, _, Sl.nil, [], true, hpl, rfl, rfl, rfl, R9.out, .inl ⟨rfl, fold_some htk.out hf.out rfl⟩⟩)
       go_roundw
       case rel => exact ⟨FI.out, (by first | exact fun _ => hok.out rfl | exact fun _ => hok.out trivial | exact hok.out trivial | exact hok.out rfl)⟩
       case measure => simp [intOf] <;> omega
   ·have hpe : pos = f.length := by rw [fBA_size] at hp; omega
    have hpi : ¬ (pos : Int) < ((fBA f).size : Int) := by omega
    have hpe := hZ hpe
    cases bb with
    | false =>
     have HA := hZ (show askW (w0 :: v0 :: ws0) = none from by
      rcases hfz.out with ⟨h1, _⟩ | ⟨h1, _⟩
      ·cases h1
      ·exact h1)
     go_upto_region 41 with fail
     have DQ := hZ (R6.out.fresh ((Turned.refl (fun _ => False) wr).drew))
     refine wp_region_segs (fun w' => AskAt w' bx ⟨xk, xr, xi, xq, xd, xl, xa, xt, xn, xp, xo⟩ ⟨⟨PA, Pn, Pc⟩, ⟨QA, On, Oc⟩⟩) (segT [0, 1, 2, 3, 4, 5, 6, 7, 8] ++ segF [9] ++ segT [10] ++ segF [11] ++ segT [12]) mixed (by kernel_rfl) (fun _ _ _ _ _ h => h) ?_
     simp only [segT, segF, pickSegs, zF, List.map_nil, zG, zH, List.filterMap_cons, List.filterMap_nil, zI, zJ, Option.map_some]
     have hS := DQ.out.aa
     iterate 3 (refine wpSegs_take (v := ?_) hS rfl (fun w' hw => ?_) ?_; rotate_left; (obtain ⟨c0, c1, c2, c3, c4, c5, c6, c7, c8, c9, c10⟩ := AskAt.cells hw; simp only at c0 c1 c2 c3 c4 c5 c6 c7 c8 c9 c10; go_simp; try with_reducible rfl); try simp only [Act.put, zA, zB, zC])
     iterate 3 (refine wpSegs_skip hS rfl ?_; try simp only [Act.put, zA, zB, zC])
     iterate 2 (refine wpSegs_take (v := ?_) hS rfl (fun w' hw => ?_) ?_; rotate_left; (obtain ⟨c0, c1, c2, c3, c4, c5, c6, c7, c8, c9, c10⟩ := AskAt.cells hw; simp only at c0 c1 c2 c3 c4 c5 c6 c7 c8 c9 c10; go_simp; try with_reducible rfl); try simp only [Act.put, zA, zB, zC])
     (refine wpSegs_skip hS rfl ?_; try simp only [Act.put, zA, zB, zC])
     generalize wr.drew = WD at *
     (refine wpSegs_runSkip hS rfl ?_; try simp only [Act.put, zA, zB, zC])
     (refine wpSegs_take (v := ?_) hS rfl (fun w' hw => ?_) ?_; rotate_left; (obtain ⟨c0, c1, c2, c3, c4, c5, c6, c7, c8, c9, c10⟩ := AskAt.cells hw; simp only at c0 c1 c2 c3 c4 c5 c6 c7 c8 c9 c10; go_simp; try with_reducible rfl); try simp only [Act.put, zA, zB, zC])
     obtain ⟨y0, y1, y2, y3, y4, y5, y6, y7, y8, y9, y10⟩ := Blk.cells11 DQ.out.res
     have yf := DQ.out.res.frozen
     refine wpSegs_run rfl (fun K hK => ?_)
     go_simp
     obtain ⟨wz, hwz, XZ, tZ⟩ := fin11 (.int .u8 xk) (.int .i64 xr) (.string ⟨xi.toArray⟩) (.int .i64 xq) (.int .i64 xd) (.int .i64 xl) (.int .i64 xa) (.int .i64 xt) (.int .i64 xn) (.slice PA Pn Pc) (.slice QA On Oc) DQ.out.res
     rw [hwz]
     clear hwz
     have nr := DQ.out.b2
     have hS := AskAt.turned DQ.out.aa tZ (fun e => by omega)
     refine hK.out _ _ hS ?_
     clear hK K
     (refine wpSegs_take (v := ?_) hS rfl (fun w' hw => ?_) ?_; rotate_left; (obtain ⟨c0, c1, c2, c3, c4, c5, c6, c7, c8, c9, c10⟩ := AskAt.cells hw; simp only at c0 c1 c2 c3 c4 c5 c6 c7 c8 c9 c10; go_simp; try with_reducible rfl); try simp only [Act.put, zA, zB, zC])
     refine wpSegs_nil ?_
     clear hS
     go_wp2_with fail
     obtain ⟨e0, e1, e2, e3, e4, e5, e6, e7, e8, e9, e10⟩ := XZ.cells11
     refine bodyPost_ret (v := .tuple #[.agg #[.int .u8 xk, .int .i64 xr, .string ⟨xi.toArray⟩, .int .i64 xq, .int .i64 xd, .int .i64 xl, .int .i64 xa, .int .i64 xt, .int .i64 xn, .slice PA Pn Pc, .slice QA On Oc], .bool false]) (by simp [results, Tryz.results69, go_sem, e0, e1, e2, e3, e4, e5, e6, e7, e8, e9, e10]) rfl ?_
     have nb := DQ.out.b1
     exact ⟨_, ⟨⟨PA, Pn, Pc⟩, ⟨QA, On, Oc⟩⟩, false, rfl, ⟨DQ.out.own.parts.turned tZ (fun g e e2 => DQ.out.own.parts.blk DQ.out.res (by decide) e e2), DQ.out.own.others.turned tZ (fun g e e2 => DQ.out.own.others.blk DQ.out.res (by decide) e e2), DQ.out.own.pB, DQ.out.own.oB⟩, DQ.out.ok, HA.out, DQ.out.t.trans tZ (fun _ e => e) (fun i e => .inr (by subst e; omega))⟩
    | true =>
     cases ws6 with
     | nil =>
      have hl0 : sn = 0 := R6.out.sl.len.symm
      have hl1 : ((sn : Int) == 0) = true := by rw [hl0]; rfl
      clear hl0
      have HA := hZ (show askW (w0 :: v0 :: ws0) = (if rightA ⟨xk, xr, xi, xq, xd, xl, xa, xt, xn, xp, xo⟩ then some ⟨xk, xr, xi, xq, xd, xl, xa, xt, xn, xp, xo⟩ else none) from by
       rcases hfz.out with ⟨_, h1⟩ | ⟨_, h1⟩
       ·rw [hpe.out, List.take_length] at h1
        exact HF.out (hok.out rfl) _ _ h1
       ·rcases h1 with h1 | ⟨h1, _⟩
        ·cases h1
        ·exact absurd rfl h1)
      go_upto_region 41 with fail
      have DQ := hZ (R6.out.fresh ((Turned.refl (fun _ => False) wr).drew))
      refine wp_region_segs (fun w' => AskAt w' bx ⟨xk, xr, xi, xq, xd, xl, xa, xt, xn, xp, xo⟩ ⟨⟨PA, Pn, Pc⟩, ⟨QA, On, Oc⟩⟩) (segT [0, 1, 2, 3, 4, 5, 6, 7, 8] ++ segF [9] ++ segT [10] ++ segF [11] ++ segT [12]) mixed (by kernel_rfl) (fun _ _ _ _ _ h => h) ?_
      simp only [segT, segF, pickSegs, zF, List.map_nil, zG, zH, List.filterMap_cons, List.filterMap_nil, zI, zJ, Option.map_some]
      have hS := DQ.out.aa
      iterate 3 (refine wpSegs_take (v := ?_) hS rfl (fun w' hw => ?_) ?_; rotate_left; (obtain ⟨c0, c1, c2, c3, c4, c5, c6, c7, c8, c9, c10⟩ := AskAt.cells hw; simp only at c0 c1 c2 c3 c4 c5 c6 c7 c8 c9 c10; go_simp; try with_reducible rfl); try simp only [Act.put, zA, zB, zC])
      iterate 6 (refine wpSegs_take (v := ?_) hS rfl (fun w' hw => ?_) ?_; rotate_left; (obtain ⟨c0, c1, c2, c3, c4, c5, c6, c7, c8, c9, c10⟩ := AskAt.cells hw; simp only at c0 c1 c2 c3 c4 c5 c6 c7 c8 c9 c10; go_simp; try with_reducible rfl); try simp only [Act.put, zA, zB, zC])
      generalize wr.drew = WD at *
      refine wpSegs_run rfl (fun K hK => ?_)
      go_simp
      refine (rright13_any ⟨xk, xr, xi, xq, xd, xl, xa, xt, xn, xp, xo⟩ ⟨⟨PA, Pn, Pc⟩, ⟨QA, On, Oc⟩⟩ WD DQ.out.own.is DQ.out.ok).mono ?_
      rintro e WE ⟨rfl, tE⟩
      have DE := hZ (DQ.out.fresh tE)
      clear DQ tE
      have hS := DE.out.aa
      refine hK.out _ _ hS ?_
      clear hK K
      try simp only [Act.put, zA, zB, zC]
      (refine wpSegs_take (v := ?_) hS rfl (fun w' hw => ?_) ?_; rotate_left; (obtain ⟨c0, c1, c2, c3, c4, c5, c6, c7, c8, c9, c10⟩ := AskAt.cells hw; simp only at c0 c1 c2 c3 c4 c5 c6 c7 c8 c9 c10; go_simp; try with_reducible rfl); try simp only [Act.put, zA, zB, zC])
      have DQ := DE
      clear DE
      generalize WE = WD at *
      obtain ⟨y0, y1, y2, y3, y4, y5, y6, y7, y8, y9, y10⟩ := Blk.cells11 DQ.out.res
      have yf := DQ.out.res.frozen
      refine wpSegs_run rfl (fun K hK => ?_)
      go_simp
      obtain ⟨wz, hwz, XZ, tZ⟩ := fin11 (.int .u8 xk) (.int .i64 xr) (.string ⟨xi.toArray⟩) (.int .i64 xq) (.int .i64 xd) (.int .i64 xl) (.int .i64 xa) (.int .i64 xt) (.int .i64 xn) (.slice PA Pn Pc) (.slice QA On Oc) DQ.out.res
      rw [hwz]
      clear hwz
      have nr := DQ.out.b2
      have hS := AskAt.turned DQ.out.aa tZ (fun e => by omega)
      refine hK.out _ _ hS ?_
      clear hK K
      (refine wpSegs_take (v := ?_) hS rfl (fun w' hw => ?_) ?_; rotate_left; (obtain ⟨c0, c1, c2, c3, c4, c5, c6, c7, c8, c9, c10⟩ := AskAt.cells hw; simp only at c0 c1 c2 c3 c4 c5 c6 c7 c8 c9 c10; go_simp; try with_reducible rfl); try simp only [Act.put, zA, zB, zC])
      refine wpSegs_nil ?_
      clear hS
      go_wp2_with fail
      obtain ⟨e0, e1, e2, e3, e4, e5, e6, e7, e8, e9, e10⟩ := XZ.cells11
      refine bodyPost_ret (v := .tuple #[.agg #[.int .u8 xk, .int .i64 xr, .string ⟨xi.toArray⟩, .int .i64 xq, .int .i64 xd, .int .i64 xl, .int .i64 xa, .int .i64 xt, .int .i64 xn, .slice PA Pn Pc, .slice QA On Oc], .bool (rightA ⟨xk, xr, xi, xq, xd, xl, xa, xt, xn, xp, xo⟩)]) (by simp [results, Tryz.results69, go_sem, e0, e1, e2, e3, e4, e5, e6, e7, e8, e9, e10]) rfl ?_
      have nb := DQ.out.b1
      exact ⟨_, ⟨⟨PA, Pn, Pc⟩, ⟨QA, On, Oc⟩⟩, (rightA ⟨xk, xr, xi, xq, xd, xl, xa, xt, xn, xp, xo⟩), rfl, ⟨DQ.out.own.parts.turned tZ (fun g e e2 => DQ.out.own.parts.blk DQ.out.res (by decide) e e2), DQ.out.own.others.turned tZ (fun g e e2 => DQ.out.own.others.blk DQ.out.res (by decide) e e2), DQ.out.own.pB, DQ.out.own.oB⟩, DQ.out.ok, HA.out, DQ.out.t.trans tZ (fun _ e => e) (fun i e => .inr (by subst e; omega))⟩
     | cons y t =>
      have hl0 := R6.out.sl.len
      simp only [List.length_cons] at hl0
      have hl1 : ((sn : Int) == 0) = false := by simp; omega
      clear hl0
      have HA := hZ (show askW (w0 :: v0 :: ws0) = none from by
       rcases hfz.out with ⟨_, h1⟩ | ⟨h1, _⟩
       ·rw [hpe.out, List.take_length] at h1
        exact HF.out (hok.out rfl) _ _ h1
       ·exact h1)
      go_upto_region 41 with fail
      have DQ := hZ (R6.out.fresh ((Turned.refl (fun _ => False) wr).drew))
      refine wp_region_segs (fun w' => AskAt w' bx ⟨xk, xr, xi, xq, xd, xl, xa, xt, xn, xp, xo⟩ ⟨⟨PA, Pn, Pc⟩, ⟨QA, On, Oc⟩⟩) (segT [0, 1, 2, 3, 4, 5, 6, 7, 8] ++ segF [9] ++ segT [10] ++ segF [11] ++ segT [12]) mixed (by kernel_rfl) (fun _ _ _ _ _ h => h) ?_
      simp only [segT, segF, pickSegs, zF, List.map_nil, zG, zH, List.filterMap_cons, List.filterMap_nil, zI, zJ, Option.map_some]
      have hS := DQ.out.aa
      iterate 3 (refine wpSegs_take (v := ?_) hS rfl (fun w' hw => ?_) ?_; rotate_left; (obtain ⟨c0, c1, c2, c3, c4, c5, c6, c7, c8, c9, c10⟩ := AskAt.cells hw; simp only at c0 c1 c2 c3 c4 c5 c6 c7 c8 c9 c10; go_simp; try with_reducible rfl); try simp only [Act.put, zA, zB, zC])
      iterate 5 (refine wpSegs_take (v := ?_) hS rfl (fun w' hw => ?_) ?_; rotate_left; (obtain ⟨c0, c1, c2, c3, c4, c5, c6, c7, c8, c9, c10⟩ := AskAt.cells hw; simp only at c0 c1 c2 c3 c4 c5 c6 c7 c8 c9 c10; go_simp; try with_reducible rfl); try simp only [Act.put, zA, zB, zC])
      (refine wpSegs_skip hS rfl ?_; try simp only [Act.put, zA, zB, zC])
      generalize wr.drew = WD at *
      (refine wpSegs_runSkip hS rfl ?_; try simp only [Act.put, zA, zB, zC])
      (refine wpSegs_take (v := ?_) hS rfl (fun w' hw => ?_) ?_; rotate_left; (obtain ⟨c0, c1, c2, c3, c4, c5, c6, c7, c8, c9, c10⟩ := AskAt.cells hw; simp only at c0 c1 c2 c3 c4 c5 c6 c7 c8 c9 c10; go_simp; try with_reducible rfl); try simp only [Act.put, zA, zB, zC])
      obtain ⟨y0, y1, y2, y3, y4, y5, y6, y7, y8, y9, y10⟩ := Blk.cells11 DQ.out.res
      have yf := DQ.out.res.frozen
      refine wpSegs_run rfl (fun K hK => ?_)
      go_simp
      obtain ⟨wz, hwz, XZ, tZ⟩ := fin11 (.int .u8 xk) (.int .i64 xr) (.string ⟨xi.toArray⟩) (.int .i64 xq) (.int .i64 xd) (.int .i64 xl) (.int .i64 xa) (.int .i64 xt) (.int .i64 xn) (.slice PA Pn Pc) (.slice QA On Oc) DQ.out.res
      rw [hwz]
      clear hwz
      have nr := DQ.out.b2
      have hS := AskAt.turned DQ.out.aa tZ (fun e => by omega)
      refine hK.out _ _ hS ?_
      clear hK K
      (refine wpSegs_take (v := ?_) hS rfl (fun w' hw => ?_) ?_; rotate_left; (obtain ⟨c0, c1, c2, c3, c4, c5, c6, c7, c8, c9, c10⟩ := AskAt.cells hw; simp only at c0 c1 c2 c3 c4 c5 c6 c7 c8 c9 c10; go_simp; try with_reducible rfl); try simp only [Act.put, zA, zB, zC])
      refine wpSegs_nil ?_
      clear hS
      go_wp2_with fail
      obtain ⟨e0, e1, e2, e3, e4, e5, e6, e7, e8, e9, e10⟩ := XZ.cells11
      refine bodyPost_ret (v := .tuple #[.agg #[.int .u8 xk, .int .i64 xr, .string ⟨xi.toArray⟩, .int .i64 xq, .int .i64 xd, .int .i64 xl, .int .i64 xa, .int .i64 xt, .int .i64 xn, .slice PA Pn Pc, .slice QA On Oc], .bool false]) (by simp [results, Tryz.results69, go_sem, e0, e1, e2, e3, e4, e5, e6, e7, e8, e9, e10]) rfl ?_
      have nb := DQ.out.b1
      exact ⟨_, ⟨⟨PA, Pn, Pc⟩, ⟨QA, On, Oc⟩⟩, false, rfl, ⟨DQ.out.own.parts.turned tZ (fun g e e2 => DQ.out.own.parts.blk DQ.out.res (by decide) e e2), DQ.out.own.others.turned tZ (fun g e e2 => DQ.out.own.others.blk DQ.out.res (by decide) e e2), DQ.out.own.pB, DQ.out.own.oB⟩, DQ.out.ok, HA.out, DQ.out.t.trans tZ (fun _ e => e) (fun i e => .inr (by subst e; omega))⟩
end Go.Proofs.YtglojnmcbochaaaGreatDoor

