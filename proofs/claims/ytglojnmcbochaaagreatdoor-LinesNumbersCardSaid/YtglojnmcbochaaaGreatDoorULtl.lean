/-
 storemanlaw31.LinesTales: the walk. Conditions: the library's variables, ask.kinds and lines.verbs hold what their initialisers lay; lists are within one allocation.
-/
import Derived.Test.YtglojnmcbochaaaGreatDoorUGrt
import Derived.Test.YtglojnmcbochaaaGreatDoorULnU
import Derived.Test.YtglojnmcbochaaaGreatDoorURfQh
namespace Go.Proofs.YtglojnmcbochaaaGreatDoor
open Go.RowKit Go.Maps
set_option linter.unusedVariables false
set_option linter.unusedSimpArgs false

theorem great_small {t : TaleV} {w : World} {S : AskS} {R : TellS} (hA : AskIs w t.ask S) (hT : TellIs w t.tell R) (h : greatT t = false) : SmallS S ∧ SmallT R := by
 unfold greatT at h
 simp only [Bool.or_eq_false_iff, decide_eq_false_iff_not] at h
 have h1 := hA.parts.len
 have h2 := hA.others.len
 have h3 := SlL.len hT.lots
 have h4 := SlU.len hT.uses
 exact ⟨⟨by omega, by omega⟩, ⟨by omega, by omega⟩⟩
theorem exec_load {P : Program} {ev : Operand → Value} {o : Oper} {w : World} (ty : TypeId) (x : Operand) (ho : o.op = .load ty x) (b off : Nat) (hx : ev x = .pointer (some ⟨b, off, none⟩)) (cs : List Value) (d : TypeDesc) (hc : w.rangeAt b off cs) (hu : P.underlying ty = some d) (hd : d.isRow = true) (hi : (P.info? ty).map (·.size) = some cs.length) : (execOp ev o).run P w = .ok (.value (.agg cs.toArray)) w := by
 unfold execOp
 simp only [ho, hx, Instr.loadAt, Instr.sureAddr, Sem.run_bind, Sem.run_pure, Result.andThen_ok, run_loadVar_mid w b off ty cs d hc hu hd hi]
set_option maxRecDepth 100000 in
set_option maxHeartbeats 16000000 in
theorem linesTales_any (t : TaleV) (SY : AskS) (ST : TellS) (w : World) (hv0 : LnVars w) (hY0 : AskIs w t.ask SY) (hT0 : TellIs w t.tell ST) (hoT0 : t.Ok) (hfY : AskFew t.ask) (hfT : TellFew t.tell) :
  Calls Tryz.prog 4 #[.agg (taleC t SY ST)] w (OkNew w) := by
 have mixed : Tryz.prog.follows .mixedOrders = true := by kernel_rfl
 have hAw := hZ (fun (W : World) (d : Turned (fun _ => False) w W) => awake31_any W (hv0.vars.turned d) (hv0.kinds.fresh d) (hv0.verbs.fresh d))
 have hG1 := hZ (fun (W : World) (d : Turned (fun _ => False) w W) => great31_any t SY ST W (hY0.fresh d) (hT0.fresh d) hfY hfT)
 have hSm := hZ (great_small hY0 hT0)
 have hPy := hZ (show greatT t = false → t.ask.parts.length ≤ 1000000 from fun h => by
  have := (great_small hY0 hT0 h).1.p
  have := hY0.parts.len
  omega)
 generalize greatT t = g1 at hG1 hSm hPy
 obtain ⟨tk, at_, ses, ⟨yk, yr, yi, yq, yd, yl, ya, yt, yn, yp, yo⟩, ⟨er, id, dy, cd, st, lots, uses⟩⟩ := t
 obtain ⟨⟨PA, Pn, Pc⟩, ⟨QA, Qn, Qc⟩⟩ := SY
 obtain ⟨⟨LA, Ln, Lc⟩, ⟨UA, Un, Uc⟩⟩ := ST
 have hv := hZ hv0
 have hY := hZ hY0
 have hTI := hZ hT0
 have hoT := hZ hoT0
 clear hv0 hY0 hT0 hoT0 hfY hfT
 unfold taleC strV at hG1
 unfold taleC strV
 simp only at hG1 ⊢
 go_enter Tryz.func4, Tryz.ntmps4
 go_upto_region 1 with fail
 have d0 := (Turned.refl (fun _ => False) w).alloc (.cells #[.int .u8 tk, .int .i64 at_, .int .i64 ses, .int .u8 yk, .int .i64 yr, .string ⟨yi.toArray⟩, .int .i64 yq, .int .i64 yd, .int .i64 yl, .int .i64 ya, .int .i64 yt, .int .i64 yn, .slice PA Pn Pc, .slice QA Qn Qc, .int .i64 er, .int .i64 id, .int .i64 dy, .string ⟨cd.toArray⟩, .int .u8 st, .slice LA Ln Lc, .slice UA Un Uc] 44)
 have BB := hZ (Blk.new w 44 #[.int .u8 tk, .int .i64 at_, .int .i64 ses, .int .u8 yk, .int .i64 yr, .string ⟨yi.toArray⟩, .int .i64 yq, .int .i64 yd, .int .i64 yl, .int .i64 ya, .int .i64 yt, .int .i64 yn, .slice PA Pn Pc, .slice QA Qn Qc, .int .i64 er, .int .i64 id, .int .i64 dy, .string ⟨cd.toArray⟩, .int .u8 st, .slice LA Ln Lc, .slice UA Un Uc])
 have D0 := hZ d0
 obtain ⟨v0, hv00⟩ : ∃ v0, v0 = w.alloc (.cells #[.int .u8 tk, .int .i64 at_, .int .i64 ses, .int .u8 yk, .int .i64 yr, .string ⟨yi.toArray⟩, .int .i64 yq, .int .i64 yd, .int .i64 yl, .int .i64 ya, .int .i64 yt, .int .i64 yn, .slice PA Pn Pc, .slice QA Qn Qc, .int .i64 er, .int .i64 id, .int .i64 dy, .string ⟨cd.toArray⟩, .int .u8 st, .slice LA Ln Lc, .slice UA Un Uc] 44) := ⟨_, rfl⟩
 rw [← hv00] at BB D0 ⊢
 clear hv00 d0
 obtain ⟨bb, hbb⟩ : ∃ bb, w.heap.size = bb := ⟨_, rfl⟩
 rw [hbb] at BB ⊢
 clear hbb
 have hrg := BB.out.range21
 go_wp2_with (refine wpList_load_mid rfl 44 _ rfl bb 0 rfl [.int .u8 tk, .int .i64 at_, .int .i64 ses, .int .u8 yk, .int .i64 yr, .string ⟨yi.toArray⟩, .int .i64 yq, .int .i64 yd, .int .i64 yl, .int .i64 ya, .int .i64 yt, .int .i64 yn, .slice PA Pn Pc, .slice QA Qn Qc, .int .i64 er, .int .i64 id, .int .i64 dy, .string ⟨cd.toArray⟩, .int .u8 st, .slice LA Ln Lc, .slice UA Un Uc] _ hrg Tryz.underlying44 rfl (by kernel_rfl) ?_; clear hrg)
 refine (hG1.out _ D0.out).mono ?_
 rintro e v1 ⟨rfl, q⟩
 have D1 := hZ (D0.out.and_ q)
 have BB := hZ (BB.out.turned q (fun e => e))
 clear q D0 hG1
 cases g1 with
 | true =>
  go_wp2_with fail
  refine (hAw.out _ D1.out).mono ?_
  rintro e v2 ⟨rfl, q⟩
  have D2 := hZ (D1.out.and_ q)
  clear q D1
  go_wp2_with fail
  go_ret
  exact ⟨rfl, D2.out⟩
 | false =>
  obtain ⟨hs1, hs2⟩ := hSm.out rfl
  clear hSm
  have hrg := BB.out.range21
  go_wp2_with (refine wpList_load_mid rfl 44 _ rfl bb 0 rfl [.int .u8 tk, .int .i64 at_, .int .i64 ses, .int .u8 yk, .int .i64 yr, .string ⟨yi.toArray⟩, .int .i64 yq, .int .i64 yd, .int .i64 yl, .int .i64 ya, .int .i64 yt, .int .i64 yn, .slice PA Pn Pc, .slice QA Qn Qc, .int .i64 er, .int .i64 id, .int .i64 dy, .string ⟨cd.toArray⟩, .int .u8 st, .slice LA Ln Lc, .slice UA Un Uc] _ hrg Tryz.underlying44 rfl (by kernel_rfl) ?_; clear hrg)
  have hLn := hZ (lentTale_any ⟨tk, at_, ses, ⟨yk, yr, yi, yq, yd, yl, ya, yt, yn, yp, yo⟩, ⟨er, id, dy, cd, st, lots, uses⟩⟩ ⟨⟨PA, Pn, Pc⟩, ⟨QA, Qn, Qc⟩⟩ ⟨⟨LA, Ln, Lc⟩, ⟨UA, Un, Uc⟩⟩ v1 (hY.out.fresh D1.out) (hTI.out.fresh D1.out) hs1 hs2)
  unfold taleC strV at hLn
  simp only at hLn
  refine hLn.out.mono ?_
  rintro e v2 ⟨gq, gx, gl, gu, rfl, hLA, hLT, q⟩
  have D2 := hZ (D1.out.and_ q)
  have B2 := hZ (BB.out.turned q (fun e => e))
  have hLA := hZ hLA
  have hLT := hZ hLT
  clear q D1 BB hLn
  unfold taleC lentS lentT strV
  simp only
  have d3 := (Turned.refl (fun _ => False) v2).alloc (.cells #[.int .u8 0, .int .i64 0, .int .i64 0, .int .u8 0, .int .i64 0, .string ⟨#[]⟩, .int .i64 0, .int .i64 0, .int .i64 0, .int .i64 0, .int .i64 0, .int .i64 0, .slice none 0 0, .slice none 0 0, .int .i64 0, .int .i64 0, .int .i64 0, .string ⟨#[]⟩, .int .u8 0, .slice none 0 0, .slice none 0 0] 44)
  have BN0 := Blk.new v2 44 #[.int .u8 0, .int .i64 0, .int .i64 0, .int .u8 0, .int .i64 0, .string ⟨#[]⟩, .int .i64 0, .int .i64 0, .int .i64 0, .int .i64 0, .int .i64 0, .int .i64 0, .slice none 0 0, .slice none 0 0, .int .i64 0, .int .i64 0, .int .i64 0, .string ⟨#[]⟩, .int .u8 0, .slice none 0 0, .slice none 0 0]
  have hth := BN0.there 0 21 (by simp)
  have d4 := turned_setCells v2.heap.size [.int .u8 tk, .int .i64 at_, .int .i64 ses, .int .u8 yk, .int .i64 yr, .string ⟨yi.toArray⟩, .int .i64 yq, .int .i64 yd, .int .i64 yl, .int .i64 ya, .int .i64 yt, .int .i64 yn, .slice (some ⟨gq, 0, none⟩) Pn (Pn + 12), .slice (some ⟨gx, 0, none⟩) Qn (Qn + 12), .int .i64 er, .int .i64 id, .int .i64 dy, .string ⟨cd.toArray⟩, .int .u8 st, .slice (some ⟨gl, 0, none⟩) Ln (Ln + 12), .slice (some ⟨gu, 0, none⟩) Un (Un + 12)] 0 (v2.alloc (.cells #[.int .u8 0, .int .i64 0, .int .i64 0, .int .u8 0, .int .i64 0, .string ⟨#[]⟩, .int .i64 0, .int .i64 0, .int .i64 0, .int .i64 0, .int .i64 0, .int .i64 0, .slice none 0 0, .slice none 0 0, .int .i64 0, .int .i64 0, .int .i64 0, .string ⟨#[]⟩, .int .u8 0, .slice none 0 0, .slice none 0 0] 44))
  have d3 := d3.trans (W := fun _ => False) d4 (fun _ e => e) (fun i e => .inr (by omega))
  have BN : Blk ((v2.alloc (.cells #[.int .u8 0, .int .i64 0, .int .i64 0, .int .u8 0, .int .i64 0, .string ⟨#[]⟩, .int .i64 0, .int .i64 0, .int .i64 0, .int .i64 0, .int .i64 0, .int .i64 0, .slice none 0 0, .slice none 0 0, .int .i64 0, .int .i64 0, .int .i64 0, .string ⟨#[]⟩, .int .u8 0, .slice none 0 0, .slice none 0 0] 44)).setCells v2.heap.size 0 [.int .u8 tk, .int .i64 at_, .int .i64 ses, .int .u8 yk, .int .i64 yr, .string ⟨yi.toArray⟩, .int .i64 yq, .int .i64 yd, .int .i64 yl, .int .i64 ya, .int .i64 yt, .int .i64 yn, .slice (some ⟨gq, 0, none⟩) Pn (Pn + 12), .slice (some ⟨gx, 0, none⟩) Qn (Qn + 12), .int .i64 er, .int .i64 id, .int .i64 dy, .string ⟨cd.toArray⟩, .int .u8 st, .slice (some ⟨gl, 0, none⟩) Ln (Ln + 12), .slice (some ⟨gu, 0, none⟩) Un (Un + 12)]) v2.heap.size 44 #[.int .u8 tk, .int .i64 at_, .int .i64 ses, .int .u8 yk, .int .i64 yr, .string ⟨yi.toArray⟩, .int .i64 yq, .int .i64 yd, .int .i64 yl, .int .i64 ya, .int .i64 yt, .int .i64 yn, .slice (some ⟨gq, 0, none⟩) Pn (Pn + 12), .slice (some ⟨gx, 0, none⟩) Qn (Qn + 12), .int .i64 er, .int .i64 id, .int .i64 dy, .string ⟨cd.toArray⟩, .int .u8 st, .slice (some ⟨gl, 0, none⟩) Ln (Ln + 12), .slice (some ⟨gu, 0, none⟩) Un (Un + 12)] := by
   have := Blk.setCells [.int .u8 tk, .int .i64 at_, .int .i64 ses, .int .u8 yk, .int .i64 yr, .string ⟨yi.toArray⟩, .int .i64 yq, .int .i64 yd, .int .i64 yl, .int .i64 ya, .int .i64 yt, .int .i64 yn, .slice (some ⟨gq, 0, none⟩) Pn (Pn + 12), .slice (some ⟨gx, 0, none⟩) Qn (Qn + 12), .int .i64 er, .int .i64 id, .int .i64 dy, .string ⟨cd.toArray⟩, .int .u8 st, .slice (some ⟨gl, 0, none⟩) Ln (Ln + 12), .slice (some ⟨gu, 0, none⟩) Un (Un + 12)] 0 _ _ BN0
   simp only [putCs, zA, zB, zC, Nat.reduceAdd] at this
   exact this
  have BN := hZ BN
  have BB := hZ (B2.out.turned d3 (fun e => e))
  have hLA := hZ (hLA.out.fresh d3)
  have hLT := hZ (hLT.out.fresh d3)
  have D3 := hZ (D2.out.and_ d3)
  clear d3 d4 B2 D2 BN0
  go_upto_region 4 with (refine wpList_store_mid rfl 44 _ _ rfl v2.heap.size 0 _ rfl rfl ?_ ?_ ?_ ?_; { exact hth }; { kernel_rfl }; { rw [List.all_toArray]; rfl }; (try simp only [List.toList_toArray]); generalize (v2.alloc (.cells #[.int .u8 0, .int .i64 0, .int .i64 0, .int .u8 0, .int .i64 0, .string ⟨#[]⟩, .int .i64 0, .int .i64 0, .int .i64 0, .int .i64 0, .int .i64 0, .int .i64 0, .slice none 0 0, .slice none 0 0, .int .i64 0, .int .i64 0, .int .i64 0, .string ⟨#[]⟩, .int .u8 0, .slice none 0 0, .slice none 0 0] 44)).setCells v2.heap.size 0 [.int .u8 tk, .int .i64 at_, .int .i64 ses, .int .u8 yk, .int .i64 yr, .string ⟨yi.toArray⟩, .int .i64 yq, .int .i64 yd, .int .i64 yl, .int .i64 ya, .int .i64 yt, .int .i64 yn, .slice (some ⟨gq, 0, none⟩) Pn (Pn + 12), .slice (some ⟨gx, 0, none⟩) Qn (Qn + 12), .int .i64 er, .int .i64 id, .int .i64 dy, .string ⟨cd.toArray⟩, .int .u8 st, .slice (some ⟨gl, 0, none⟩) Ln (Ln + 12), .slice (some ⟨gu, 0, none⟩) Un (Un + 12)] = v3 at *)
  clear hth
  obtain ⟨b3, hb3⟩ : ∃ b3, v2.heap.size = b3 := ⟨_, rfl⟩
  rw [hb3] at BN ⊢
  clear hb3
  refine wp_region_segs (fun w' => Blk w' b3 44 #[.int .u8 tk, .int .i64 at_, .int .i64 ses, .int .u8 yk, .int .i64 yr, .string ⟨yi.toArray⟩, .int .i64 yq, .int .i64 yd, .int .i64 yl, .int .i64 ya, .int .i64 yt, .int .i64 yn, .slice (some ⟨gq, 0, none⟩) Pn (Pn + 12), .slice (some ⟨gx, 0, none⟩) Qn (Qn + 12), .int .i64 er, .int .i64 id, .int .i64 dy, .string ⟨cd.toArray⟩, .int .u8 st, .slice (some ⟨gl, 0, none⟩) Ln (Ln + 12), .slice (some ⟨gu, 0, none⟩) Un (Un + 12)] ∧ Blk w' bb 44 #[.int .u8 tk, .int .i64 at_, .int .i64 ses, .int .u8 yk, .int .i64 yr, .string ⟨yi.toArray⟩, .int .i64 yq, .int .i64 yd, .int .i64 yl, .int .i64 ya, .int .i64 yt, .int .i64 yn, .slice PA Pn Pc, .slice QA Qn Qc, .int .i64 er, .int .i64 id, .int .i64 dy, .string ⟨cd.toArray⟩, .int .u8 st, .slice LA Ln Lc, .slice UA Un Uc]) (segT [0, 2] ++ segF [1] ++ segF [3] ++ segT [4, 5, 6, 7] ++ segF [8] ++ segT [9, 10] ++ segF [11] ++ segT [12, 13]) mixed (by kernel_rfl) (fun _ _ _ _ _ h => h) ?_
  simp only [segT, segF, pickSegs, zF, List.map_nil, zG, zH, List.filterMap_cons, List.filterMap_nil, zI, zJ, Option.map_some]
  have hS : Blk v3.drew b3 44 #[.int .u8 tk, .int .i64 at_, .int .i64 ses, .int .u8 yk, .int .i64 yr, .string ⟨yi.toArray⟩, .int .i64 yq, .int .i64 yd, .int .i64 yl, .int .i64 ya, .int .i64 yt, .int .i64 yn, .slice (some ⟨gq, 0, none⟩) Pn (Pn + 12), .slice (some ⟨gx, 0, none⟩) Qn (Qn + 12), .int .i64 er, .int .i64 id, .int .i64 dy, .string ⟨cd.toArray⟩, .int .u8 st, .slice (some ⟨gl, 0, none⟩) Ln (Ln + 12), .slice (some ⟨gu, 0, none⟩) Un (Un + 12)] ∧ Blk v3.drew bb 44 #[.int .u8 tk, .int .i64 at_, .int .i64 ses, .int .u8 yk, .int .i64 yr, .string ⟨yi.toArray⟩, .int .i64 yq, .int .i64 yd, .int .i64 yl, .int .i64 ya, .int .i64 yt, .int .i64 yn, .slice PA Pn Pc, .slice QA Qn Qc, .int .i64 er, .int .i64 id, .int .i64 dy, .string ⟨cd.toArray⟩, .int .u8 st, .slice LA Ln Lc, .slice UA Un Uc] := ⟨BN.out.drew, BB.out.drew⟩
  have D4 := hZ (D3.out.and_ ((Turned.refl (fun _ => False) v3).drew))
  have hLA := hZ (hLA.out.fresh ((Turned.refl (fun _ => False) v3).drew))
  have hLT := hZ (hLT.out.fresh ((Turned.refl (fun _ => False) v3).drew))
  clear D3 BN BB
  generalize v3.drew = v4 at *
  (refine wpSegs_take (v := .agg #[.int .u8 tk, .int .i64 at_, .int .i64 ses, .int .u8 yk, .int .i64 yr, .string ⟨yi.toArray⟩, .int .i64 yq, .int .i64 yd, .int .i64 yl, .int .i64 ya, .int .i64 yt, .int .i64 yn, .slice (some ⟨gq, 0, none⟩) Pn (Pn + 12), .slice (some ⟨gx, 0, none⟩) Qn (Qn + 12), .int .i64 er, .int .i64 id, .int .i64 dy, .string ⟨cd.toArray⟩, .int .u8 st, .slice (some ⟨gl, 0, none⟩) Ln (Ln + 12), .slice (some ⟨gu, 0, none⟩) Un (Un + 12)]) hS rfl (fun w' hw => exec_load 44 _ rfl b3 0 rfl [.int .u8 tk, .int .i64 at_, .int .i64 ses, .int .u8 yk, .int .i64 yr, .string ⟨yi.toArray⟩, .int .i64 yq, .int .i64 yd, .int .i64 yl, .int .i64 ya, .int .i64 yt, .int .i64 yn, .slice (some ⟨gq, 0, none⟩) Pn (Pn + 12), .slice (some ⟨gx, 0, none⟩) Qn (Qn + 12), .int .i64 er, .int .i64 id, .int .i64 dy, .string ⟨cd.toArray⟩, .int .u8 st, .slice (some ⟨gl, 0, none⟩) Ln (Ln + 12), .slice (some ⟨gu, 0, none⟩) Un (Un + 12)] _ hw.1.range21 Tryz.underlying44 rfl (by kernel_rfl)) ?_; (try simp only [Act.put, zA, zB, zC]))
  (refine wpSegs_take (v := .agg #[.int .u8 tk, .int .i64 at_, .int .i64 ses, .int .u8 yk, .int .i64 yr, .string ⟨yi.toArray⟩, .int .i64 yq, .int .i64 yd, .int .i64 yl, .int .i64 ya, .int .i64 yt, .int .i64 yn, .slice PA Pn Pc, .slice QA Qn Qc, .int .i64 er, .int .i64 id, .int .i64 dy, .string ⟨cd.toArray⟩, .int .u8 st, .slice LA Ln Lc, .slice UA Un Uc]) hS rfl (fun w' hw => exec_load 44 _ rfl bb 0 rfl [.int .u8 tk, .int .i64 at_, .int .i64 ses, .int .u8 yk, .int .i64 yr, .string ⟨yi.toArray⟩, .int .i64 yq, .int .i64 yd, .int .i64 yl, .int .i64 ya, .int .i64 yt, .int .i64 yn, .slice PA Pn Pc, .slice QA Qn Qc, .int .i64 er, .int .i64 id, .int .i64 dy, .string ⟨cd.toArray⟩, .int .u8 st, .slice LA Ln Lc, .slice UA Un Uc] _ hw.2.range21 Tryz.underlying44 rfl (by kernel_rfl)) ?_; (try simp only [Act.put, zA, zB, zC]))
  have hT1 := hZ (ltell_any ⟨tk, at_, ses, ⟨yk, yr, yi, yq, yd, yl, ya, yt, yn, yp, yo⟩, ⟨er, id, dy, cd, st, lots, uses⟩⟩ (lentS ⟨⟨PA, Pn, Pc⟩, ⟨QA, Qn, Qc⟩⟩ gq gx) (lentT ⟨⟨LA, Ln, Lc⟩, ⟨UA, Un, Uc⟩⟩ gl gu) v4 (hv.out.vars.turned D4.out) (hv.out.kinds.fresh D4.out) (hv.out.verbs.fresh D4.out) (hLA.out.is (hY.out.fresh D4.out) hs1) (hLT.out.is (hTI.out.fresh D4.out) hs2) hoT.out (hPy.out (by first | trivial | rfl)))
  unfold taleC lentS lentT strV at hT1
  simp only at hT1
  refine wpSegs_run rfl (fun K hK => ?_)
  go_simp
  refine (hT1.out).mono ?_
  rintro e v5 ⟨rfl, q⟩
  have hS2 : Blk v5 b3 44 #[.int .u8 tk, .int .i64 at_, .int .i64 ses, .int .u8 yk, .int .i64 yr, .string ⟨yi.toArray⟩, .int .i64 yq, .int .i64 yd, .int .i64 yl, .int .i64 ya, .int .i64 yt, .int .i64 yn, .slice (some ⟨gq, 0, none⟩) Pn (Pn + 12), .slice (some ⟨gx, 0, none⟩) Qn (Qn + 12), .int .i64 er, .int .i64 id, .int .i64 dy, .string ⟨cd.toArray⟩, .int .u8 st, .slice (some ⟨gl, 0, none⟩) Ln (Ln + 12), .slice (some ⟨gu, 0, none⟩) Un (Un + 12)] ∧ Blk v5 bb 44 #[.int .u8 tk, .int .i64 at_, .int .i64 ses, .int .u8 yk, .int .i64 yr, .string ⟨yi.toArray⟩, .int .i64 yq, .int .i64 yd, .int .i64 yl, .int .i64 ya, .int .i64 yt, .int .i64 yn, .slice PA Pn Pc, .slice QA Qn Qc, .int .i64 er, .int .i64 id, .int .i64 dy, .string ⟨cd.toArray⟩, .int .u8 st, .slice LA Ln Lc, .slice UA Un Uc] := ⟨hS.1.turned q (fun e => e), hS.2.turned q (fun e => e)⟩
  have hLA := hZ (hLA.out.fresh q)
  have hLT := hZ (hLT.out.fresh q)
  refine hK.out _ _ hS2 ?_
  clear hK K
  have D5 := hZ (D4.out.and_ q)
  clear q hS D4
  have hS := hS2
  clear hS2
  (try simp only [Act.put, zA, zB, zC])
  clear hT1
  have hT2 := hZ (rtold_any ⟨tk, at_, ses, ⟨yk, yr, yi, yq, yd, yl, ya, yt, yn, yp, yo⟩, ⟨er, id, dy, cd, st, lots, uses⟩⟩ ⟨⟨PA, Pn, Pc⟩, ⟨QA, Qn, Qc⟩⟩ ⟨⟨LA, Ln, Lc⟩, ⟨UA, Un, Uc⟩⟩ v5 (hY.out.fresh D5.out) (hTI.out.fresh D5.out) hoT.out)
  unfold taleC strV at hT2
  simp only at hT2
  refine wpSegs_run rfl (fun K hK => ?_)
  go_simp
  refine (hT2.out).mono ?_
  rintro e v6 ⟨rfl, q⟩
  have hS2 : Blk v6 b3 44 #[.int .u8 tk, .int .i64 at_, .int .i64 ses, .int .u8 yk, .int .i64 yr, .string ⟨yi.toArray⟩, .int .i64 yq, .int .i64 yd, .int .i64 yl, .int .i64 ya, .int .i64 yt, .int .i64 yn, .slice (some ⟨gq, 0, none⟩) Pn (Pn + 12), .slice (some ⟨gx, 0, none⟩) Qn (Qn + 12), .int .i64 er, .int .i64 id, .int .i64 dy, .string ⟨cd.toArray⟩, .int .u8 st, .slice (some ⟨gl, 0, none⟩) Ln (Ln + 12), .slice (some ⟨gu, 0, none⟩) Un (Un + 12)] ∧ Blk v6 bb 44 #[.int .u8 tk, .int .i64 at_, .int .i64 ses, .int .u8 yk, .int .i64 yr, .string ⟨yi.toArray⟩, .int .i64 yq, .int .i64 yd, .int .i64 yl, .int .i64 ya, .int .i64 yt, .int .i64 yn, .slice PA Pn Pc, .slice QA Qn Qc, .int .i64 er, .int .i64 id, .int .i64 dy, .string ⟨cd.toArray⟩, .int .u8 st, .slice LA Ln Lc, .slice UA Un Uc] := ⟨hS.1.turned q (fun e => e), hS.2.turned q (fun e => e)⟩
  have hLA := hZ (hLA.out.fresh q)
  have hLT := hZ (hLT.out.fresh q)
  refine hK.out _ _ hS2 ?_
  clear hK K
  have D6 := hZ (D5.out.and_ q)
  clear q hS D5
  have hS := hS2
  clear hS2
  (try simp only [Act.put, zA, zB, zC])
  clear hT2
  generalize (⟨(toldL ⟨tk, at_, ses, ⟨yk, yr, yi, yq, yd, yl, ya, yt, yn, yp, yo⟩, ⟨er, id, dy, cd, st, lots, uses⟩⟩).toArray⟩ : ByteArray) = told at *
  iterate 2 (refine wpSegs_take (v := ?_) hS rfl (fun w' hw => ?_) ?_; rotate_left; (focus (go_simp; (try with_reducible rfl); done)); (try simp only [Act.put, zA, zB, zC]))
  (refine wpSegs_take (v := .agg #[.int .u8 tk, .int .i64 at_, .int .i64 ses, .int .u8 yk, .int .i64 yr, .string ⟨yi.toArray⟩, .int .i64 yq, .int .i64 yd, .int .i64 yl, .int .i64 ya, .int .i64 yt, .int .i64 yn, .slice (some ⟨gq, 0, none⟩) Pn (Pn + 12), .slice (some ⟨gx, 0, none⟩) Qn (Qn + 12), .int .i64 er, .int .i64 id, .int .i64 dy, .string ⟨cd.toArray⟩, .int .u8 st, .slice (some ⟨gl, 0, none⟩) Ln (Ln + 12), .slice (some ⟨gu, 0, none⟩) Un (Un + 12)]) hS rfl (fun w' hw => exec_load 44 _ rfl b3 0 rfl [.int .u8 tk, .int .i64 at_, .int .i64 ses, .int .u8 yk, .int .i64 yr, .string ⟨yi.toArray⟩, .int .i64 yq, .int .i64 yd, .int .i64 yl, .int .i64 ya, .int .i64 yt, .int .i64 yn, .slice (some ⟨gq, 0, none⟩) Pn (Pn + 12), .slice (some ⟨gx, 0, none⟩) Qn (Qn + 12), .int .i64 er, .int .i64 id, .int .i64 dy, .string ⟨cd.toArray⟩, .int .u8 st, .slice (some ⟨gl, 0, none⟩) Ln (Ln + 12), .slice (some ⟨gu, 0, none⟩) Un (Un + 12)] _ hw.1.range21 Tryz.underlying44 rfl (by kernel_rfl)) ?_; (try simp only [Act.put, zA, zB, zC]))
  (refine wpSegs_take (v := .agg #[.int .u8 tk, .int .i64 at_, .int .i64 ses, .int .u8 yk, .int .i64 yr, .string ⟨yi.toArray⟩, .int .i64 yq, .int .i64 yd, .int .i64 yl, .int .i64 ya, .int .i64 yt, .int .i64 yn, .slice PA Pn Pc, .slice QA Qn Qc, .int .i64 er, .int .i64 id, .int .i64 dy, .string ⟨cd.toArray⟩, .int .u8 st, .slice LA Ln Lc, .slice UA Un Uc]) hS rfl (fun w' hw => exec_load 44 _ rfl bb 0 rfl [.int .u8 tk, .int .i64 at_, .int .i64 ses, .int .u8 yk, .int .i64 yr, .string ⟨yi.toArray⟩, .int .i64 yq, .int .i64 yd, .int .i64 yl, .int .i64 ya, .int .i64 yt, .int .i64 yn, .slice PA Pn Pc, .slice QA Qn Qc, .int .i64 er, .int .i64 id, .int .i64 dy, .string ⟨cd.toArray⟩, .int .u8 st, .slice LA Ln Lc, .slice UA Un Uc] _ hw.2.range21 Tryz.underlying44 rfl (by kernel_rfl)) ?_; (try simp only [Act.put, zA, zB, zC]))
  have hK1 := hZ (keptTale_any ⟨tk, at_, ses, ⟨yk, yr, yi, yq, yd, yl, ya, yt, yn, yp, yo⟩, ⟨er, id, dy, cd, st, lots, uses⟩⟩ ⟨⟨PA, Pn, Pc⟩, ⟨QA, Qn, Qc⟩⟩ ⟨⟨LA, Ln, Lc⟩, ⟨UA, Un, Uc⟩⟩ gq gx gl gu _ _ v6 (hY.out.fresh D6.out) (hTI.out.fresh D6.out) hLA.out hLT.out hs1 hs2)
  unfold taleC lentS lentT strV at hK1
  simp only at hK1
  refine wpSegs_run rfl (fun K hK => ?_)
  go_simp
  refine (hK1.out).mono ?_
  rintro e v7 ⟨rfl, q⟩
  have hS2 : Blk v7 b3 44 #[.int .u8 tk, .int .i64 at_, .int .i64 ses, .int .u8 yk, .int .i64 yr, .string ⟨yi.toArray⟩, .int .i64 yq, .int .i64 yd, .int .i64 yl, .int .i64 ya, .int .i64 yt, .int .i64 yn, .slice (some ⟨gq, 0, none⟩) Pn (Pn + 12), .slice (some ⟨gx, 0, none⟩) Qn (Qn + 12), .int .i64 er, .int .i64 id, .int .i64 dy, .string ⟨cd.toArray⟩, .int .u8 st, .slice (some ⟨gl, 0, none⟩) Ln (Ln + 12), .slice (some ⟨gu, 0, none⟩) Un (Un + 12)] ∧ Blk v7 bb 44 #[.int .u8 tk, .int .i64 at_, .int .i64 ses, .int .u8 yk, .int .i64 yr, .string ⟨yi.toArray⟩, .int .i64 yq, .int .i64 yd, .int .i64 yl, .int .i64 ya, .int .i64 yt, .int .i64 yn, .slice PA Pn Pc, .slice QA Qn Qc, .int .i64 er, .int .i64 id, .int .i64 dy, .string ⟨cd.toArray⟩, .int .u8 st, .slice LA Ln Lc, .slice UA Un Uc] := ⟨hS.1.turned q (fun e => e), hS.2.turned q (fun e => e)⟩
  refine hK.out _ _ hS2 ?_
  clear hK K
  have D7 := hZ (D6.out.and_ q)
  clear q hS D6
  have hS := hS2
  clear hS2
  (try simp only [Act.put, zA, zB, zC])
  clear hK1
  iterate 2 (refine wpSegs_take (v := ?_) hS rfl (fun w' hw => ?_) ?_; rotate_left; (focus (go_simp; (try with_reducible rfl); done)); (try simp only [Act.put, zA, zB, zC]))
  refine wpSegs_run rfl (fun K hK => ?_)
  go_simp
  refine (hAw.out _ D7.out).mono ?_
  rintro e v8 ⟨rfl, q⟩
  have hS2 : Blk v8 b3 44 #[.int .u8 tk, .int .i64 at_, .int .i64 ses, .int .u8 yk, .int .i64 yr, .string ⟨yi.toArray⟩, .int .i64 yq, .int .i64 yd, .int .i64 yl, .int .i64 ya, .int .i64 yt, .int .i64 yn, .slice (some ⟨gq, 0, none⟩) Pn (Pn + 12), .slice (some ⟨gx, 0, none⟩) Qn (Qn + 12), .int .i64 er, .int .i64 id, .int .i64 dy, .string ⟨cd.toArray⟩, .int .u8 st, .slice (some ⟨gl, 0, none⟩) Ln (Ln + 12), .slice (some ⟨gu, 0, none⟩) Un (Un + 12)] ∧ Blk v8 bb 44 #[.int .u8 tk, .int .i64 at_, .int .i64 ses, .int .u8 yk, .int .i64 yr, .string ⟨yi.toArray⟩, .int .i64 yq, .int .i64 yd, .int .i64 yl, .int .i64 ya, .int .i64 yt, .int .i64 yn, .slice PA Pn Pc, .slice QA Qn Qc, .int .i64 er, .int .i64 id, .int .i64 dy, .string ⟨cd.toArray⟩, .int .u8 st, .slice LA Ln Lc, .slice UA Un Uc] := ⟨hS.1.turned q (fun e => e), hS.2.turned q (fun e => e)⟩
  refine hK.out _ _ hS2 ?_
  clear hK K
  have D8 := hZ (D7.out.and_ q)
  clear q hS D7
  have hS := hS2
  clear hS2
  (try simp only [Act.put, zA, zB, zC])
  iterate 2 (refine wpSegs_take (v := ?_) hS rfl (fun w' hw => ?_) ?_; rotate_left; (focus (go_simp; (try with_reducible rfl); done)); (try simp only [Act.put, zA, zB, zC]))
  refine wpSegs_nil ?_
  clear hS
  go_wp2_with fail
  go_ret
  exact ⟨rfl, D8.out⟩
end Go.Proofs.YtglojnmcbochaaaGreatDoor

