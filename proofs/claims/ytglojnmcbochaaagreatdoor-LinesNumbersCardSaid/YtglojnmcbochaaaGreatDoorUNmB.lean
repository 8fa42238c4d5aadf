/-
 storemanlaw31.LinesNumbers: the walk. Condition: the library's variables, ask.kinds, lines.verbs and strings.asciiSpace hold what their initialisers lay.
-/
import Derived.Test.YtglojnmcbochaaaGreatDoorURfQh
import Derived.Test.YtglojnmcbochaaaGreatDoorUGrt
import Derived.Test.YtglojnmcbochaaaGreatDoorULtl
namespace Go.Proofs.YtglojnmcbochaaaGreatDoor
open Go.RowKit Go.Maps
set_option linter.unusedVariables false
set_option linter.unusedSimpArgs false

theorem wpList_load_want {P : Program} {ops : Array Oper} {rest : List Oper} {op : Oper} {a : Act} {w : World} {Q : Exit → Act → World → Prop} (hw : Region.wanted op (yielded ops a.tmps) = true) (ty : TypeId) (x : Operand) (ho : op.op = .load ty x) (b o : Nat) (hx : a.eval x = .pointer (some ⟨b, o, none⟩)) (cs : List Value) (d : TypeDesc) (hc : w.rangeAt b o cs) (hu : P.underlying ty = some d) (hd : d.isRow = true) (hi : (P.info? ty).map (·.size) = some cs.length)
  (h : wpList P ops Q rest (a.put op.dst (.agg cs.toArray)) w) : wpList P ops Q (op :: rest) a w := by
 unfold wpList
 rw [if_pos hw]
 exact .inl (wp_load_mid ty x ho b o hx cs d hc hu hd hi h)
theorem nm_yes (w : World) : ∃ v, w.alloc (.cells #[.string ⟨#[102, 108, 117, 115, 104]⟩, .string ⟨#[109, 97, 114, 107]⟩, .string ⟨#[111, 112, 101, 110]⟩, .string ⟨#[114, 117, 110, 32, 48]⟩, .string ⟨#[114, 117, 110, 32, 51]⟩, .string ⟨#[97, 114, 109, 32, 45, 57, 50, 50, 51, 51, 55, 50, 48, 51, 54, 56, 53, 52, 55, 55, 53, 56, 48, 56]⟩, .string ⟨#[97, 114, 109, 32, 57, 50, 50, 51, 51, 55, 50, 48, 51, 54, 56, 53, 52, 55, 55, 53, 56, 48, 55]⟩, .string ⟨#[99, 114, 97, 115, 104]⟩, .string ⟨#[99, 114, 97, 115, 104, 32, 45, 49, 32, 48]⟩, .string ⟨#[97, 115, 107, 32, 48, 32, 105, 116, 101, 109, 32, 48, 32, 65, 32, 53]⟩, .string ⟨#[97, 115, 107, 32, 48, 32, 107, 105, 116, 32, 52, 54, 49, 49, 54, 56, 54, 48, 49, 56, 52, 50, 55, 51, 56, 55, 57, 48, 52, 32, 75, 32, 65, 32, 50, 32, 66, 32, 49, 48, 55, 51, 55, 52, 49, 56, 50, 52]⟩, .string ⟨#[97, 115, 107, 32, 48, 32, 111, 116, 104, 101, 114, 115, 32, 48, 32, 65]⟩, .string ⟨#[97, 115, 107, 32, 48, 32, 111, 116, 104, 101, 114, 115, 32, 48, 32, 65, 32, 66, 32, 67]⟩, .string ⟨#[97, 115, 107, 32, 51, 32, 114, 101, 99, 101, 105, 118, 101, 32, 49, 32, 65, 32, 53]⟩, .string ⟨#[97, 115, 107, 32, 48, 32, 111, 114, 100, 101, 114, 32, 48, 32, 65, 32, 53, 32, 52, 48, 48, 48]⟩, .string ⟨#[97, 115, 107, 32, 48, 32, 100, 117, 101, 32, 48, 32, 49, 32, 48]⟩, .string ⟨#[97, 115, 107, 32, 48, 32, 100, 114, 111, 112, 32, 48, 32, 57, 50, 50, 51, 51, 55, 50, 48, 51, 54, 56, 53, 52, 55, 55, 53, 56, 48, 55]⟩, .string ⟨#[97, 115, 107, 32, 48, 32, 97, 114, 114, 105, 118, 101, 32, 48, 32, 49]⟩, .string ⟨#[97, 115, 107, 32, 48, 32, 110, 101, 101, 100, 32, 48, 32, 65, 32, 49, 32, 48, 32, 57, 57]⟩, .string ⟨#[97, 115, 107, 32, 48, 32, 99, 97, 110, 99, 101, 108, 32, 48, 32, 49]⟩, .string ⟨#[97, 115, 107, 32, 48, 32, 115, 104, 105, 112, 32, 48, 32, 49]⟩, .string ⟨#[97, 115, 107, 32, 48, 32, 116, 105, 99, 107, 32, 48]⟩, .string ⟨#[97, 115, 107, 32, 48, 32, 119, 104, 101, 110, 32, 48, 32, 65, 32, 49, 32, 48]⟩, .string ⟨#[97, 115, 107, 32, 48, 32, 108, 105, 110, 101, 32, 48, 32, 49]⟩, .string ⟨#[97, 115, 107, 32, 48, 32, 115, 116, 111, 99, 107, 32, 48, 32, 65]⟩] 9) = v ∧ RowE v 9 1 w.heap.size 25 25 (textC yesT) ∧ Turned (fun _ => False) w v := ⟨_, rfl, RowE.new w 9 1 25 _ rfl (by unfold maxLen; omega), (Turned.refl _ w).alloc _⟩
theorem nm_no (w : World) : ∃ v, w.alloc (.cells #[.string ⟨#[]⟩, .string ⟨#[32]⟩, .string ⟨#[97, 115, 107]⟩, .string ⟨#[97, 115, 107, 32, 48]⟩, .string ⟨#[97, 115, 107, 32, 52, 32, 116, 105, 99, 107, 32, 48]⟩, .string ⟨#[97, 115, 107, 32, 45, 49, 32, 116, 105, 99, 107, 32, 48]⟩, .string ⟨#[97, 115, 107, 32, 48, 32, 116, 105, 99, 107]⟩, .string ⟨#[97, 115, 107, 32, 48, 32, 116, 105, 99, 107, 32, 48, 32, 49]⟩, .string ⟨#[97, 115, 107, 32, 48, 32, 105, 116, 101, 109, 32, 48, 32, 97, 32, 53]⟩, .string ⟨#[97, 115, 107, 32, 48, 32, 105, 116, 101, 109, 32, 48, 32, 65, 32, 48]⟩, .string ⟨#[97, 115, 107, 32, 48, 32, 107, 105, 116, 32, 48, 32, 75, 32, 65]⟩, .string ⟨#[97, 115, 107, 32, 48, 32, 107, 105, 116, 32, 48, 32, 75]⟩, .string ⟨#[97, 115, 107, 32, 48, 32, 111, 116, 104, 101, 114, 115, 32, 48, 32, 65, 32, 65]⟩, .string ⟨#[114, 117, 110]⟩, .string ⟨#[114, 117, 110, 32, 52]⟩, .string ⟨#[114, 117, 110, 32, 48, 32, 48]⟩, .string ⟨#[102, 108, 117, 115, 104, 32, 49]⟩, .string ⟨#[97, 114, 109]⟩, .string ⟨#[97, 114, 109, 32, 49, 32, 49]⟩, .string ⟨#[97, 114, 109, 32, 120]⟩, .string ⟨#[99, 114, 97, 115, 104, 32, 49, 32, 120]⟩, .string ⟨#[65, 115, 107, 32, 48, 32, 116, 105, 99, 107, 32, 48]⟩, .string ⟨#[97, 115, 107, 9, 48, 32, 116, 105, 99, 107, 32, 48]⟩, .string ⟨#[116, 105, 99, 107, 32, 48]⟩] 9) = v ∧ RowE v 9 1 w.heap.size 24 24 (textC noT) ∧ Turned (fun _ => False) w v := ⟨_, rfl, RowE.new w 9 1 24 _ rfl (by unfold maxLen; omega), (Turned.refl _ w).alloc _⟩
theorem nm_odd (w : World) : ∃ v, w.alloc (.cells #[.string ⟨#[97]⟩, .string ⟨#[48, 49]⟩, .string ⟨#[45, 49]⟩, .string ⟨#[52]⟩, .string ⟨#[52, 54, 49, 49, 54, 56, 54, 48, 49, 56, 52, 50, 55, 51, 56, 55, 57, 48, 53]⟩, .string ⟨#[57, 50, 50, 51, 51, 55, 50, 48, 51, 54, 56, 53, 52, 55, 55, 53, 56, 48, 56]⟩, .string ⟨#[65, 66, 67, 68, 69, 70, 71, 72, 73, 74, 75, 76, 77]⟩, .string ⟨#[9]⟩] 9) = v ∧ RowE v 9 1 w.heap.size 8 8 (textC oddT) ∧ Turned (fun _ => False) w v := ⟨_, rfl, RowE.new w 9 1 8 _ rfl (by unfold maxLen; omega), (Turned.refl _ w).alloc _⟩
theorem nm_tale (w : World) (cs : List Value) (h : putCs #[.int .u8 0, .int .i64 0, .int .i64 0, .int .u8 0, .int .i64 0, .string ⟨#[]⟩, .int .i64 0, .int .i64 0, .int .i64 0, .int .i64 0, .int .i64 0, .int .i64 0, .slice none 0 0, .slice none 0 0, .int .i64 0, .int .i64 0, .int .i64 0, .string ⟨#[]⟩, .int .u8 0, .slice none 0 0, .slice none 0 0] 0 cs = cs.toArray) : ∃ v, (w.alloc (.cells #[.int .u8 0, .int .i64 0, .int .i64 0, .int .u8 0, .int .i64 0, .string ⟨#[]⟩, .int .i64 0, .int .i64 0, .int .i64 0, .int .i64 0, .int .i64 0, .int .i64 0, .slice none 0 0, .slice none 0 0, .int .i64 0, .int .i64 0, .int .i64 0, .string ⟨#[]⟩, .int .u8 0, .slice none 0 0, .slice none 0 0] 44)).setCells w.heap.size 0 cs = v ∧ Blk v w.heap.size 44 cs.toArray ∧ Turned (fun _ => False) w v ∧ (w.alloc (.cells #[.int .u8 0, .int .i64 0, .int .i64 0, .int .u8 0, .int .i64 0, .string ⟨#[]⟩, .int .i64 0, .int .i64 0, .int .i64 0, .int .i64 0, .int .i64 0, .int .i64 0, .slice none 0 0, .slice none 0 0, .int .i64 0, .int .i64 0, .int .i64 0, .string ⟨#[]⟩, .int .u8 0, .slice none 0 0, .slice none 0 0] 44)).there w.heap.size 0 21 := by
 have hb := Blk.new w 44 #[.int .u8 0, .int .i64 0, .int .i64 0, .int .u8 0, .int .i64 0, .string ⟨#[]⟩, .int .i64 0, .int .i64 0, .int .i64 0, .int .i64 0, .int .i64 0, .int .i64 0, .slice none 0 0, .slice none 0 0, .int .i64 0, .int .i64 0, .int .i64 0, .string ⟨#[]⟩, .int .u8 0, .slice none 0 0, .slice none 0 0]
 refine ⟨_, rfl, ?_, ((Turned.refl (fun _ => False) w).alloc _).trans (W := fun _ => False) (turned_setCells w.heap.size cs 0 _) (fun _ e => e) (fun i e => .inr (by omega)), hb.there 0 21 (by simp)⟩
 have := Blk.setCells cs 0 _ _ hb
 rw [h] at this
 exact this
def tale5 (k : Int) : TaleV := ⟨k, k - 1, 5 - k, ⟨2, 0, [75], 0, 0, 0, 0, 0, 0, [([65], 2)], []⟩, ⟨0, 0, -1, [], 0, [⟨2, [65], 1, 9, 5, true⟩], [⟨0, 2, 1099511627776⟩]⟩⟩
def tale6 (k : Int) : TaleV := ⟨k, -9223372036854775808, 9223372036854775807, AskV.zero, ⟨240, 0, 0, [], 0, [], []⟩⟩
def tale7 (k : Int) : TaleV := ⟨k, 0, 0, AskV.zero, ⟨1, 1, 0, [], 0, [], []⟩⟩
theorem RowE.of_blk {w : World} {g q n : Nat} {t : TypeId} {cs : Array Value} (h : Blk w g t cs) (hl : cs.size = n * q) (hn : n ≤ maxLen) : RowE w t q g n n cs.toList := ⟨by simpa using hl, Nat.le_refl _, hn, cs, h, hl, List.take_of_length_le (by simp [hl])⟩
theorem tale5_ask {w : World} {g : Nat} {k : Int} (h : Blk w g 62 #[.string ⟨#[65]⟩, .int .i64 2]) : AskIs w (tale5 k).ask ⟨⟨some ⟨g, 0, none⟩, 1, 1⟩, Sl.nil⟩ :=
 ⟨RowE.slQ (ms := []) (show RowE w 62 2 g 1 1 (partC ([([65], 2)] ++ [])) from RowE.of_blk h rfl (by unfold maxLen; decide)) rfl (Nat.le_refl _) (by decide), (askIs_nil w AskV.zero rfl rfl).others⟩
theorem tale5_tell {w : World} {g1 g2 : Nat} {k : Int} (h1 : Blk w g1 60 #[.int .i64 2, .string ⟨#[65]⟩, .int .i64 1, .int .i64 9, .int .i64 5, .bool true]) (h2 : Blk w g2 64 #[.int .i64 0, .int .i64 2, .int .i64 1099511627776]) : TellIs w (tale5 k).tell ⟨⟨some ⟨g1, 0, none⟩, 1, 1⟩, ⟨some ⟨g2, 0, none⟩, 1, 1⟩⟩ :=
 ⟨RowE.slL (ms := []) (show RowE w 60 6 g1 1 1 (lotC ([⟨2, [65], 1, 9, 5, true⟩] ++ [])) from RowE.of_blk h1 rfl (by unfold maxLen; decide)) rfl (Nat.le_refl _) (by decide), RowE.slU (ms := []) (show RowE w 64 3 g2 1 1 (useC ([⟨0, 2, 1099511627776⟩] ++ [])) from RowE.of_blk h2 rfl (by unfold maxLen; decide)) rfl (Nat.le_refl _) (by decide)⟩
theorem tale5_ok {k : Int} (h0 : 0 ≤ k) (h1 : k ≤ 5) : (tale5 k).Ok := ⟨(show isByte k by unfold isByte; omega), (show I64 (k - 1) by unfold I64; omega), (show I64 (5 - k) by unfold I64; omega), ⟨(show isByte 2 by unfold isByte; decide), I64_zero, (show strOk [75] by unfold strOk; decide), I64_zero, I64_zero, I64_zero, I64_zero, I64_zero, I64_zero, fun p hp => by
  have hp : p = ([65], 2) := by simpa [tale5] using hp
  subst hp
  exact ⟨(show strOk [65] by unfold strOk; decide), (show I64 2 by unfold I64; decide)⟩, fun s hs => by cases hs⟩,
 ⟨I64_zero, I64_zero, (show I64 (-1) by unfold I64; decide), (show strOk [] by unfold strOk; decide), (show isByte 0 by unfold isByte; decide), fun l hl => by
  have hl : l = ⟨2, [65], 1, 9, 5, true⟩ := by simpa [tale5] using hl
  subst hl
  exact ⟨(show I64 2 by unfold I64; decide), (show strOk [65] by unfold strOk; decide), (show I64 1 by unfold I64; decide), (show I64 9 by unfold I64; decide), (show I64 5 by unfold I64; decide)⟩, fun u hu => by
  have hu : u = ⟨0, 2, 1099511627776⟩ := by simpa [tale5] using hu
  subst hu
  exact ⟨I64_zero, (show I64 2 by unfold I64; decide), (show I64 1099511627776 by unfold I64; decide)⟩⟩⟩
theorem tale6_ok {k : Int} (h0 : 0 ≤ k) (h1 : k ≤ 5) : (tale6 k).Ok := ⟨(show isByte k by unfold isByte; omega), (show I64 (-9223372036854775808) by unfold I64; decide), (show I64 9223372036854775807 by unfold I64; decide), AskV.Ok.zero, ⟨(show I64 240 by unfold I64; decide), (show I64 0 by unfold I64; decide), I64_zero, (show strOk [] by unfold strOk; decide), (show isByte 0 by unfold isByte; decide), (fun l hl => by cases hl), (fun u hu => by cases hu)⟩⟩
theorem tale7_ok {k : Int} (h0 : 0 ≤ k) (h1 : k ≤ 5) : (tale7 k).Ok := ⟨(show isByte k by unfold isByte; omega), I64_zero, I64_zero, AskV.Ok.zero, ⟨(show I64 1 by unfold I64; decide), (show I64 1 by unfold I64; decide), I64_zero, (show strOk [] by unfold strOk; decide), (show isByte 0 by unfold isByte; decide), (fun l hl => by cases hl), (fun u hu => by cases hu)⟩⟩
set_option maxRecDepth 100000 in
set_option maxHeartbeats 16000000 in
theorem linesNumbers_any (w : World) (hv : NmVars w) : Calls Tryz.prog 7 #[] w (OkNew w) := by
 have hA := hZ (fun (W : World) (d : Turned (fun _ => False) w W) => awake31_any W (hv.ln.fresh d).vars (hv.ln.fresh d).kinds (hv.ln.fresh d).verbs)
 have hS := hZ (fun (W : World) (s : ByteArray) (d : Turned (fun _ => False) w W) => linesSteps_any s W (hv.ln.fresh d))
 have hL := hZ (fun (W : World) (s : ByteArray) (hs : s.size ≤ 9223372036854775807) (d : Turned (fun _ => False) w W) => line_any s W (hv.ln.fresh d).vars (hv.ln.fresh d).kinds (hv.ln.fresh d).verbs hs)
 have hRf := hZ (fun (W : World) (s : ByteArray) (hs : s.size ≤ 9223372036854775807) (d : Turned (fun _ => False) w W) (hr : lineRes s.data.toList = (StepV.zero, 310)) => refused_any s W (hv.ln.fresh d).vars (hv.ln.fresh d).kinds (hv.ln.fresh d).verbs hs hr)
 have hF := hZ (fun (W : World) (s : ByteArray) (d : Turned (fun _ => False) w W) => sfields_any s W (hv.fresh d).tab)
 have hT := hZ (fun (W : World) (t : TaleV) (SA : AskS) (R : TellS) (d : Turned (fun _ => False) w W) (h1 : AskIs W t.ask SA) (h2 : TellIs W t.tell R) (h3 : t.Ok) (h4 : AskFew t.ask) (h5 : TellFew t.tell) => linesTales_any t SA R W (hv.ln.fresh d) h1 h2 h3 h4 h5)
 clear hv
 go_enter Tryz.func7, Tryz.ntmps7
 go_upto_region 2 with fail
 obtain ⟨v1, hv1, R0, q⟩ := nm_yes w
 rw [hv1]
 have RY := hZ R0
 have T1 := hZ q
 clear hv1 q R0
 obtain ⟨g1, hg1⟩ : ∃ g1, w.heap.size = g1 := ⟨_, rfl⟩
 rw [hg1] at RY ⊢
 clear hg1
 go_wp2_with fail
 have hst := hZ (show (∃ j : Nat, j ≤ 25 ∧ (.int .i64 0 : Value) = .int .i64 j ∧ RowE v1 9 1 g1 25 25 (textC yesT) ∧ Turned (fun _ => False) w v1) from ⟨0, by omega, rfl, RY.out, T1.out⟩)
 clear RY T1
 go_loopw [2] (fun i wr => ∃ j : Nat, j ≤ 25 ∧ i = .int .i64 j ∧ RowE wr 9 1 g1 25 25 (textC yesT) ∧ Turned (fun _ => False) w wr) (fun i _ => 25 - (intOf i).toNat)
 case atStart => exact hst.out
 case round =>
  obtain ⟨j, hj, rfl, hR0, hT0⟩ := hrel
  have RY := hZ hR0
  have T1 := hZ hT0
  clear hR0 hT0 hst
  obtain ⟨v1, hv1⟩ : ∃ v1, v1 = wr := ⟨_, rfl⟩
  rw [← hv1] at RY T1 ⊢
  clear hv1
  by_cases hlt : j < 25
  ·have hji : (j : Int) < 25 := by omega
   have hmem : yesT.getD j [] ∈ yesT := by rw [List.getD_eq_getElem?_getD, List.getElem?_eq_getElem (by rw [yes_len]; exact hlt)]; exact List.getElem_mem _
   obtain ⟨hz60, hasc⟩ := yes_short _ hmem
   obtain ⟨sx, hsx⟩ := yes_read _ hmem
   have hno := hZ (yes_not _ hmem)
   obtain ⟨hw1, hw2, hw3⟩ := yes_words _ hmem
   have hcell := hZ (fun W (h : RowE W 9 1 g1 25 25 (textC yesT)) => h.cell (textC_get yesT j (by rw [yes_len]; exact hlt)))
   unfold strV at hcell
   generalize yesT.getD j [] = X at *
   have hyd := hZ (show (⟨X.toArray⟩ : ByteArray).data.toList = X from by simp)
   have hyz : (⟨X.toArray⟩ : ByteArray).size ≤ 60 := bz_le hz60
   generalize (⟨X.toArray⟩ : ByteArray) = y at *
   have hsxh := hZ hsx
   have hasch := hZ hasc
   have hw3h := hZ hw3
   clear hsx hasc hw3 hmem hz60
   have q0 := hcell.out _ RY.out
   have hbz : ((⟨#[32, 32]⟩ : ByteArray) ++ y).size ≤ 2 + 60 := by rw [ByteArray.size_append]; have := (show (⟨#[32, 32]⟩ : ByteArray).size = 2 from rfl); omega
   have hbz2 : ((⟨#[32, 32]⟩ : ByteArray) ++ y ++ (⟨#[32]⟩ : ByteArray)).size ≤ 62 + 1 := by rw [ByteArray.size_append]; have := (show (⟨#[32]⟩ : ByteArray).size = 1 from rfl); omega
   go_wp2_with fail
   have hrd := hZ (show ((⟨#[32, 32]⟩ : ByteArray) ++ y ++ (⟨#[32]⟩ : ByteArray)).data.toList = [32, 32] ++ X ++ [32] from by rw [bapp, bapp, hyd.out])
   refine (hL.out v1 _ (by omega) T1.out).mono ?_
   rintro e v2 ⟨S5, F5, rfl, ho5, hok5, q⟩
   rw [hrd.out, hsxh.out]
   have T2 := hZ (T1.out.and_ q)
   have RY := hZ (RY.out.fresh q)
   clear q T1 ho5 hok5 hrd q0 hbz hbz2
   obtain ⟨xk, xs, xn, ⟨ak, ar, ai, aq, ad, al, aa, at_, an, ap, ao⟩, xf⟩ := sx
   obtain ⟨⟨PA, Pn, Pc⟩, ⟨QA, Qn, Qc⟩⟩ := S5
   obtain ⟨FA, Fn, Fc⟩ := F5
   unfold stpC strV
   simp only
   go_upto_region 6 with fail
   have q := (Turned.refl (fun _ => False) v2).alloc (.cells #[.int .u8 xk, .int .i64 xs, .int .i64 xn, .int .u8 ak, .int .i64 ar, .string ⟨ai.toArray⟩, .int .i64 aq, .int .i64 ad, .int .i64 al, .int .i64 aa, .int .i64 at_, .int .i64 an, .slice PA Pn Pc, .slice QA Qn Qc, .slice FA Fn Fc] 31)
   have T3 := hZ (T2.out.and_ q)
   have RY := hZ (RY.out.fresh q)
   obtain ⟨v3, hv3⟩ : ∃ v3, v3 = v2.alloc (.cells #[.int .u8 xk, .int .i64 xs, .int .i64 xn, .int .u8 ak, .int .i64 ar, .string ⟨ai.toArray⟩, .int .i64 aq, .int .i64 ad, .int .i64 al, .int .i64 aa, .int .i64 at_, .int .i64 an, .slice PA Pn Pc, .slice QA Qn Qc, .slice FA Fn Fc] 31) := ⟨_, rfl⟩
   rw [← hv3] at T3 RY ⊢
   clear hv3 q T2
   generalize v2.heap.size = bs at *
   have q0 := hcell.out _ RY.out
   go_wp2_with fail
   refine (hF.out v3 y T3.out (by omega) (by rw [hyd.out]; exact hasch.out) (by rw [hyd.out]; omega)).mono ?_
   rintro e v4 ⟨b5, c5, rfl, R50, hb5, q⟩
   rw [hyd.out] at R50 ⊢
   obtain ⟨WL, hWL⟩ : ∃ WL, Lib.fields X = WL := ⟨_, rfl⟩
   rw [hWL] at R50 hw1 hw2 hw3h ⊢
   clear hWL
   obtain ⟨n, hn⟩ : ∃ n, WL.length = n + 1 := ⟨WL.length - 1, by omega⟩
   rw [hn] at R50 ⊢
   have T4 := hZ (T3.out.and_ q)
   have RY := hZ (RY.out.fresh q)
   have RW := hZ R50
   have hnh := hZ hn
   have hc5 := R50.le
   have hc5m := R50.max
   unfold maxLen at hc5m
   have hn10 : n + 1 ≤ 10 := by omega
   clear q T3 q0 R50 hb5 hn hw1 hw2
   have q0 := hcell.out _ RY.out
   go_wp2_with fail
   refine (hS.out _ _ T4.out).mono ?_
   rintro e v5 ⟨rfl, q⟩
   have T5 := hZ (T4.out.and_ q)
   have RY := hZ (RY.out.fresh q)
   have RW := hZ (RW.out.fresh q)
   clear q T4 q0
   have q0 := hcell.out _ RY.out
   have hbz : ((⟨#[120, 32]⟩ : ByteArray) ++ y).size ≤ 2 + 60 := by rw [ByteArray.size_append]; have := (show (⟨#[120, 32]⟩ : ByteArray).size = 2 from rfl); omega
   have hrd := hZ (show ((⟨#[120, 32]⟩ : ByteArray) ++ y).data.toList = [120, 32] ++ X from by rw [bapp, hyd.out])
   go_wp2_with fail
   refine (hRf.out _ _ (by omega) T5.out (by rw [hrd.out]; exact hno.out)).mono ?_
   rintro e v6 ⟨rfl, q⟩
   have T6 := hZ (T5.out.and_ q)
   have RY := hZ (RY.out.fresh q)
   have RW := hZ (RW.out.fresh q)
   clear q T5 q0
   have q0 := hcell.out _ RY.out
   clear hrd hbz
   have hbz : (y ++ (⟨#[32, 49]⟩ : ByteArray)).size ≤ 60 + 2 := by rw [ByteArray.size_append]; have := (show (⟨#[32, 49]⟩ : ByteArray).size = 2 from rfl); omega
   go_wp2_with fail
   refine (hS.out _ _ T6.out).mono ?_
   rintro e v7 ⟨rfl, q⟩
   have T7 := hZ (T6.out.and_ q)
   have RY := hZ (RY.out.fresh q)
   have RW := hZ (RW.out.fresh q)
   clear q T6 q0
   have q0 := hcell.out _ RY.out
   clear hbz
   have hbz : (y ++ (⟨#[32, 65]⟩ : ByteArray)).size ≤ 60 + 2 := by rw [ByteArray.size_append]; have := (show (⟨#[32, 65]⟩ : ByteArray).size = 2 from rfl); omega
   go_wp2_with fail
   refine (hS.out _ _ T7.out).mono ?_
   rintro e v8 ⟨rfl, q⟩
   have T8 := hZ (T7.out.and_ q)
   have RY := hZ (RY.out.fresh q)
   have RW := hZ (RW.out.fresh q)
   clear q T7 q0
   have q0 := hcell.out _ RY.out
   clear hbz
   have hsub : IntKind.i64.wrap (((n + 1 : Nat) : Int) - 1) = (n : Int) := by rw [show ((n + 1 : Nat) : Int) - 1 = (n : Int) by omega]; exact IntWalk.i64_in _ (by omega)
   have hsub2 : ((n + 1 : Nat) : Int) - 1 = (n : Int) := by omega
   have hnc : (n : Int) ≤ (c5 : Int) := by omega
   go_wp2_with fail
   refine (join_some b5 0 n c5 (WL.take n) v8 (fun i hi => by rw [Nat.zero_add, RW.out.cell (textC_get WL i (by rw [hnh.out]; omega))]; simp [List.getD_eq_getElem?_getD, List.getElem?_take, hi]) RW.out.lt (by rw [List.length_take, hnh.out]; omega) (by omega) (by omega) (fun p hp => hw3h.out p (List.mem_of_mem_take hp))).mono ?_
   rintro e v9 ⟨s9, rfl, q⟩
   have T9 := hZ (T8.out.and_ q)
   have RY := hZ (RY.out.fresh q)
   have RW := hZ (RW.out.fresh q)
   clear q T8 q0 hsub hsub2
   have q0 := hcell.out _ RY.out
   go_wp2_with fail
   refine (hS.out _ _ T9.out).mono ?_
   rintro e v10 ⟨rfl, q⟩
   have T10 := hZ (T9.out.and_ q)
   have RY := hZ (RY.out.fresh q)
   have RW := hZ (RW.out.fresh q)
   clear q T9 
   clear q0
   go_wp2_with fail
   have hst2 := hZ (show (∃ k : Nat, k ≤ n + 1 ∧ (.int .i64 0 : Value) = .int .i64 k ∧ RowE v10 9 1 g1 25 25 (textC yesT) ∧ RowE v10 9 1 b5 (n + 1) c5 (textC WL) ∧ Turned (fun _ => False) w v10) from ⟨0, by omega, rfl, RY.out, RW.out, T10.out⟩)
   clear T10 RY RW
   go_loopw [6] (fun i wr => (∃ k : Nat, k ≤ n + 1 ∧ i = .int .i64 k ∧ RowE wr 9 1 g1 25 25 (textC yesT) ∧ RowE wr 9 1 b5 (n + 1) c5 (textC WL) ∧ Turned (fun _ => False) w wr)) (fun i _ => n + 1 - (intOf i).toNat)
   case atStart => exact hst2.out
   case round =>
    obtain ⟨k, hk, rfl, hRY0, hRW0, hT0⟩ := hrel
    have RY := hZ hRY0
    have RW := hZ hRW0
    have T1 := hZ hT0
    clear hRY0 hRW0 hT0 hst2
    by_cases hlt2 : k < n + 1
    ·have hki : (k : Int) < ((n + 1 : Nat) : Int) := by omega
     have hki2 : (k : Int) < (n : Int) + 1 := by omega
     go_upto_region 13 with fail
     obtain ⟨v2, hv2, R0, q⟩ := nm_odd wr
     rw [hv2]
     have RO := hZ R0
     have T2 := hZ (T1.out.and_ q)
     have RY := hZ (RY.out.fresh q)
     have RW := hZ (RW.out.fresh q)
     clear hv2 q T1 R0
     obtain ⟨b7, hb7⟩ : ∃ b7, wr.heap.size = b7 := ⟨_, rfl⟩
     rw [hb7] at RO ⊢
     clear hb7
     go_wp2_with fail
     have hst3 := hZ (show (∃ m : Nat, m ≤ 8 ∧ (.int .i64 0 : Value) = .int .i64 m ∧ RowE v2 9 1 g1 25 25 (textC yesT) ∧ RowE v2 9 1 b5 (n + 1) c5 (textC WL) ∧ RowE v2 9 1 b7 8 8 (textC oddT) ∧ Turned (fun _ => False) w v2) from ⟨0, by omega, rfl, RY.out, RW.out, RO.out, T2.out⟩)
     clear T2 RY RW RO
     go_loopw [8] (fun i wr => (∃ m : Nat, m ≤ 8 ∧ i = .int .i64 m ∧ RowE wr 9 1 g1 25 25 (textC yesT) ∧ RowE wr 9 1 b5 (n + 1) c5 (textC WL) ∧ RowE wr 9 1 b7 8 8 (textC oddT) ∧ Turned (fun _ => False) w wr)) (fun i _ => 8 - (intOf i).toNat)
     case atStart => exact hst3.out
     case round =>
      obtain ⟨m, hm, rfl, hRY0, hRW0, hRO0, hT0⟩ := hrel
      have RY := hZ hRY0
      have RW := hZ hRW0
      have RO := hZ hRO0
      have T1 := hZ hT0
      clear hRY0 hRW0 hRO0 hT0 hst3
      by_cases hlt3 : m < 8
      ·have hmi : (m : Int) < 8 := by omega
       go_wp2_with fail
       have lY := RY.out.lt
       have lW := RW.out.lt
       have lO := RO.out.lt
       refine (copyT_any b5 (n + 1) c5 WL wr RW.out hnh.out (by omega) (by omega)).mono ?_
       rintro e v2 ⟨b9, c9, rfl, R90, hb9, q⟩
       rw [hnh.out] at R90 ⊢
       have T2 := hZ (T1.out.and_ q)
       have RY := hZ (RY.out.fresh q)
       have RW := hZ (RW.out.fresh q)
       have RO := hZ (RO.out.fresh q)
       have RV := hZ R90
       have hc9 := R90.le
       have hc9m := R90.max
       unfold maxLen at hc9m
       have ho : oddT.getD m [] ∈ oddT := by rw [List.getD_eq_getElem?_getD, List.getElem?_eq_getElem (by rw [odd_len]; exact hlt3)]; exact List.getElem_mem _
       have ho21 := odd_short _ ho
       have o0 := RO.out.cell (textC_get oddT m (by rw [odd_len]; exact hlt3))
       have p0 := RV.out.cell (textC_get WL k (by rw [hnh.out]; exact hlt2))
       have pf := RV.out.frozen k
       generalize oddT.getD m [] = od at *
       unfold strV at o0 p0
       clear ho
       have tS := turned_one v2 b9 k (.string ⟨od.toArray⟩)
       have RV3 := RV.out.set k (.string ⟨od.toArray⟩)
       have hset : (textC WL).set k (.string ⟨od.toArray⟩) = textC (WL.set k od) := by unfold textC; rw [List.map_set]; rfl
       rw [hset] at RV3
       have T3 := hZ (T2.out.trans (W := fun _ => False) tS (fun _ e => e) (fun i e => .inr (by have := hb9; have := T1.out.size; omega)))
       clear q R90 T1
       have RY3 := RY.out.turned tS (fun e => by omega)
       have RW3 := RW.out.turned tS (fun e => by omega)
       have RO3 := RO.out.turned tS (fun e => by omega)
       clear RY RW RO RV T2 lY lW lO hb9
       have RY := hZ RY3
       have RW := hZ RW3
       have RO := hZ RO3
       have RV := hZ RV3
       clear RY3 RW3 RO3 RV3 tS hset
       have hkc : (k : Int) < ((n + 1 : Nat) : Int) := by omega
       go_upto_region 18 with fail
       generalize v2.setCell ⟨b9, k, none⟩ (.string ⟨od.toArray⟩) = v3 at *
       clear o0 p0 pf
       go_wp2_with fail
       refine (join_some b9 0 (n + 1) c9 (WL.set k od) v3 (fun i hi => by rw [Nat.zero_add, RV.out.cell (textC_get (WL.set k od) i (by rw [List.length_set, hnh.out]; exact hi))]) RV.out.lt (by rw [List.length_set, hnh.out]) (by omega) (by omega) (fun p hp => by rcases List.mem_or_eq_of_mem_set hp with h | h; exact hw3h.out p h; rw [h]; exact ho21)).mono ?_
       rintro e v4 ⟨s9, rfl, q⟩
       have T4 := hZ (T3.out.and_ q)
       have RY := hZ (RY.out.fresh q)
       have RW := hZ (RW.out.fresh q)
       have RO := hZ (RO.out.fresh q)
       clear q T3 RV
       go_wp2_with fail
       refine (hS.out _ _ T4.out).mono ?_
       rintro e v5 ⟨rfl, q⟩
       have T5 := hZ (T4.out.and_ q)
       have RY := hZ (RY.out.fresh q)
       have RW := hZ (RW.out.fresh q)
       have RO := hZ (RO.out.fresh q)
       clear q T4 
       go_wp2_with fail
       go_roundw
       case rel => exact ⟨m + 1, hlt3, by go_num, RY.out, RW.out, RO.out, T5.out⟩
       case measure => simp [intOf] <;> omega
      ·have hge4 : (8 : Int) ≤ (m : Int) := by omega
       go_wp2_with fail
       go_roundw
       case rel => exact ⟨k + 1, hlt2, by go_num, RY.out, RW.out, T1.out⟩
       case measure => simp [intOf] <;> omega
    ·have hge2 : ((n + 1 : Nat) : Int) ≤ (k : Int) := by omega
     have hge3 : (n : Int) + 1 ≤ (k : Int) := by omega
     go_wp2_with fail
     go_roundw
     case rel => exact ⟨j + 1, hlt, by go_num, RY.out, T1.out⟩
     case measure => simp [intOf] <;> omega
  ·have hge : (25 : Int) ≤ (j : Int) := by omega
   go_upto_region 21 with fail
   obtain ⟨v2, hv2, R0, q⟩ := nm_no v1
   rw [hv2]
   have RN := hZ R0
   have T2 := hZ (T1.out.and_ q)
   clear hv2 q T1 RY R0
   obtain ⟨g2, hg2⟩ : ∃ g2, v1.heap.size = g2 := ⟨_, rfl⟩
   rw [hg2] at RN ⊢
   clear hg2 hF
   go_wp2_with fail
   have hst4 := hZ (show (∃ j : Nat, j ≤ 24 ∧ (.int .i64 0 : Value) = .int .i64 j ∧ RowE v2 9 1 g2 24 24 (textC noT) ∧ Turned (fun _ => False) w v2) from ⟨0, by omega, rfl, RN.out, T2.out⟩)
   clear RN T2
   go_loopw [11] (fun i wr => (∃ j : Nat, j ≤ 24 ∧ i = .int .i64 j ∧ RowE wr 9 1 g2 24 24 (textC noT) ∧ Turned (fun _ => False) w wr)) (fun i _ => 24 - (intOf i).toNat)
   case atStart => exact hst4.out
   case round =>
    obtain ⟨j2, hj2, rfl, hR0, hT0⟩ := hrel
    have RN := hZ hR0
    have T1 := hZ hT0
    clear hR0 hT0 hst4
    obtain ⟨v1, hv1⟩ : ∃ v1, v1 = wr := ⟨_, rfl⟩
    rw [← hv1] at RN T1 ⊢
    clear hv1
    by_cases hlt2 : j2 < 24
    ·have hji : (j2 : Int) < 24 := by omega
     have hmem : noT.getD j2 [] ∈ noT := by rw [List.getD_eq_getElem?_getD, List.getElem?_eq_getElem (by rw [no_len]; exact hlt2)]; exact List.getElem_mem _
     have hz60 := no_short _ hmem
     have hno := hZ (no_not _ hmem)
     have q0 := RN.out.cell (textC_get noT j2 (by rw [no_len]; exact hlt2))
     unfold strV at q0
     generalize noT.getD j2 [] = X at *
     have hyd := hZ (show (⟨X.toArray⟩ : ByteArray).data.toList = X from by simp)
     have hyz : (⟨X.toArray⟩ : ByteArray).size ≤ 60 := bz_le hz60
     generalize (⟨X.toArray⟩ : ByteArray) = y at *
     clear hmem hz60
     go_wp2_with fail
     refine (hRf.out _ _ (by omega) T1.out (by rw [hyd.out]; exact hno.out)).mono ?_
     rintro e v2 ⟨rfl, q⟩
     have T2 := hZ (T1.out.and_ q)
     have RN := hZ (RN.out.fresh q)
     clear q T1 
     clear q0
     go_wp2_with fail
     go_roundw
     case rel => exact ⟨j2 + 1, hlt2, by go_num, RN.out, T2.out⟩
     case measure => simp [intOf] <;> omega
    ·have hge2 : (24 : Int) ≤ (j2 : Int) := by omega
     go_upto_region 27 with fail
     have q := (Turned.refl (fun _ => False) v1).alloc (.cells #[.int .i64 2, .string ⟨#[65]⟩, .int .i64 1, .int .i64 9, .int .i64 5, .bool true] 60)
     have BL := hZ (Blk.new v1 60 #[.int .i64 2, .string ⟨#[65]⟩, .int .i64 1, .int .i64 9, .int .i64 5, .bool true])
     have T2 := hZ (T1.out.and_ q)
     obtain ⟨v2, hv2⟩ : ∃ v2, v2 = v1.alloc (.cells #[.int .i64 2, .string ⟨#[65]⟩, .int .i64 1, .int .i64 9, .int .i64 5, .bool true] 60) := ⟨_, rfl⟩
     rw [← hv2] at BL T2 ⊢
     clear hv2 q T1 RN
     obtain ⟨b12, hb12⟩ : ∃ b12, v1.heap.size = b12 := ⟨_, rfl⟩
     rw [hb12] at BL ⊢
     clear hb12 hRf
     go_wp2_with fail
     have hst5 := hZ (show (∃ k : Nat, k ≤ 6 ∧ (.int .i64 0 : Value) = .int .i64 k ∧ Blk v2 b12 60 #[.int .i64 2, .string ⟨#[65]⟩, .int .i64 1, .int .i64 9, .int .i64 5, .bool true] ∧ Turned (fun _ => False) w v2) from ⟨0, by omega, rfl, BL.out, T2.out⟩)
     clear BL T2
     go_loopw [13] (fun i wr => (∃ k : Nat, k ≤ 6 ∧ i = .int .i64 k ∧ Blk wr b12 60 #[.int .i64 2, .string ⟨#[65]⟩, .int .i64 1, .int .i64 9, .int .i64 5, .bool true] ∧ Turned (fun _ => False) w wr)) (fun i _ => 6 - (intOf i).toNat)
     case atStart => exact hst5.out
     case round =>
      obtain ⟨k, hk, rfl, hB0, hT0⟩ := hrel
      have BL := hZ hB0
      have T1 := hZ hT0
      clear hB0 hT0 hst5
      by_cases hlt3 : k < 6
      ·have hki : (k : Int) < 6 := by omega
       have hku : IntKind.u8.wrap (k : Int) = (k : Int) := IntWalk.u8_in _ (by omega)
       have hk1 : IntKind.i64.wrap ((k : Int) - 1) = (k : Int) - 1 := IntWalk.i64_in _ (by omega)
       have hk5 : IntKind.i64.wrap (5 - (k : Int)) = 5 - (k : Int) := IntWalk.i64_in _ (by omega)
       obtain ⟨l0, l1, l2, l3, l4, l5⟩ := (BL.out.alloc (.cells #[.string ⟨#[65]⟩, .int .i64 2] 62)).cells6
       have BP := (((Blk.new wr 62 #[.string ⟨#[65]⟩, .int .i64 2]).alloc (.cells #[.int .i64 2, .string ⟨#[65]⟩, .int .i64 1, .int .i64 9, .int .i64 5, .bool true] 60)).alloc (.cells #[.int .i64 0, .int .i64 2, .int .i64 1099511627776] 64)).alloc (.cells #[.int .u8 0, .int .i64 0, .int .i64 0, .int .u8 0, .int .i64 0, .string ⟨#[]⟩, .int .i64 0, .int .i64 0, .int .i64 0, .int .i64 0, .int .i64 0, .int .i64 0, .slice none 0 0, .slice none 0 0, .int .i64 0, .int .i64 0, .int .i64 0, .string ⟨#[]⟩, .int .u8 0, .slice none 0 0, .slice none 0 0] 44)
       have BQ := ((Blk.new_at (k := wr.heap.size + 1) (wr.alloc (.cells #[.string ⟨#[65]⟩, .int .i64 2] 62)) 60 #[.int .i64 2, .string ⟨#[65]⟩, .int .i64 1, .int .i64 9, .int .i64 5, .bool true] (by simp)).alloc (.cells #[.int .i64 0, .int .i64 2, .int .i64 1099511627776] 64)).alloc (.cells #[.int .u8 0, .int .i64 0, .int .i64 0, .int .u8 0, .int .i64 0, .string ⟨#[]⟩, .int .i64 0, .int .i64 0, .int .i64 0, .int .i64 0, .int .i64 0, .int .i64 0, .slice none 0 0, .slice none 0 0, .int .i64 0, .int .i64 0, .int .i64 0, .string ⟨#[]⟩, .int .u8 0, .slice none 0 0, .slice none 0 0] 44)
       have BU := (Blk.new_at (k := wr.heap.size + 1 + 1) ((wr.alloc (.cells #[.string ⟨#[65]⟩, .int .i64 2] 62)).alloc (.cells #[.int .i64 2, .string ⟨#[65]⟩, .int .i64 1, .int .i64 9, .int .i64 5, .bool true] 60)) 64 #[.int .i64 0, .int .i64 2, .int .i64 1099511627776] (by simp)).alloc (.cells #[.int .u8 0, .int .i64 0, .int .i64 0, .int .u8 0, .int .i64 0, .string ⟨#[]⟩, .int .i64 0, .int .i64 0, .int .i64 0, .int .i64 0, .int .i64 0, .int .i64 0, .slice none 0 0, .slice none 0 0, .int .i64 0, .int .i64 0, .int .i64 0, .string ⟨#[]⟩, .int .u8 0, .slice none 0 0, .slice none 0 0] 44)
       have BT0 := Blk.new_at (k := (wr.heap.size + 1 + 1 + 1)) (((wr.alloc (.cells #[.string ⟨#[65]⟩, .int .i64 2] 62)).alloc (.cells #[.int .i64 2, .string ⟨#[65]⟩, .int .i64 1, .int .i64 9, .int .i64 5, .bool true] 60)).alloc (.cells #[.int .i64 0, .int .i64 2, .int .i64 1099511627776] 64)) 44 #[.int .u8 0, .int .i64 0, .int .i64 0, .int .u8 0, .int .i64 0, .string ⟨#[]⟩, .int .i64 0, .int .i64 0, .int .i64 0, .int .i64 0, .int .i64 0, .int .i64 0, .slice none 0 0, .slice none 0 0, .int .i64 0, .int .i64 0, .int .i64 0, .string ⟨#[]⟩, .int .u8 0, .slice none 0 0, .slice none 0 0] (by simp)
       have hth := BT0.there 0 21 (by simp)
       have tS := turned_setCells (wr.heap.size + 1 + 1 + 1) [.int .u8 k, .int .i64 ((k : Int) - 1), .int .i64 (5 - (k : Int)), .int .u8 2, .int .i64 0, .string ⟨#[75]⟩, .int .i64 0, .int .i64 0, .int .i64 0, .int .i64 0, .int .i64 0, .int .i64 0, .slice (some ⟨wr.heap.size, 0, none⟩) 1 1, .slice none 0 0, .int .i64 0, .int .i64 0, .int .i64 (-1), .string ⟨#[]⟩, .int .u8 0, .slice (some ⟨wr.heap.size + 1, 0, none⟩) 1 1, .slice (some ⟨wr.heap.size + 1 + 1, 0, none⟩) 1 1] 0 ((((wr.alloc (.cells #[.string ⟨#[65]⟩, .int .i64 2] 62)).alloc (.cells #[.int .i64 2, .string ⟨#[65]⟩, .int .i64 1, .int .i64 9, .int .i64 5, .bool true] 60)).alloc (.cells #[.int .i64 0, .int .i64 2, .int .i64 1099511627776] 64)).alloc (.cells #[.int .u8 0, .int .i64 0, .int .i64 0, .int .u8 0, .int .i64 0, .string ⟨#[]⟩, .int .i64 0, .int .i64 0, .int .i64 0, .int .i64 0, .int .i64 0, .int .i64 0, .slice none 0 0, .slice none 0 0, .int .i64 0, .int .i64 0, .int .i64 0, .string ⟨#[]⟩, .int .u8 0, .slice none 0 0, .slice none 0 0] 44))
       have BT : Blk (((((wr.alloc (.cells #[.string ⟨#[65]⟩, .int .i64 2] 62)).alloc (.cells #[.int .i64 2, .string ⟨#[65]⟩, .int .i64 1, .int .i64 9, .int .i64 5, .bool true] 60)).alloc (.cells #[.int .i64 0, .int .i64 2, .int .i64 1099511627776] 64)).alloc (.cells #[.int .u8 0, .int .i64 0, .int .i64 0, .int .u8 0, .int .i64 0, .string ⟨#[]⟩, .int .i64 0, .int .i64 0, .int .i64 0, .int .i64 0, .int .i64 0, .int .i64 0, .slice none 0 0, .slice none 0 0, .int .i64 0, .int .i64 0, .int .i64 0, .string ⟨#[]⟩, .int .u8 0, .slice none 0 0, .slice none 0 0] 44)).setCells (wr.heap.size + 1 + 1 + 1) 0 [.int .u8 k, .int .i64 ((k : Int) - 1), .int .i64 (5 - (k : Int)), .int .u8 2, .int .i64 0, .string ⟨#[75]⟩, .int .i64 0, .int .i64 0, .int .i64 0, .int .i64 0, .int .i64 0, .int .i64 0, .slice (some ⟨wr.heap.size, 0, none⟩) 1 1, .slice none 0 0, .int .i64 0, .int .i64 0, .int .i64 (-1), .string ⟨#[]⟩, .int .u8 0, .slice (some ⟨wr.heap.size + 1, 0, none⟩) 1 1, .slice (some ⟨wr.heap.size + 1 + 1, 0, none⟩) 1 1]) (wr.heap.size + 1 + 1 + 1) 44 #[.int .u8 k, .int .i64 ((k : Int) - 1), .int .i64 (5 - (k : Int)), .int .u8 2, .int .i64 0, .string ⟨#[75]⟩, .int .i64 0, .int .i64 0, .int .i64 0, .int .i64 0, .int .i64 0, .int .i64 0, .slice (some ⟨wr.heap.size, 0, none⟩) 1 1, .slice none 0 0, .int .i64 0, .int .i64 0, .int .i64 (-1), .string ⟨#[]⟩, .int .u8 0, .slice (some ⟨wr.heap.size + 1, 0, none⟩) 1 1, .slice (some ⟨wr.heap.size + 1 + 1, 0, none⟩) 1 1] := by
        have := Blk.setCells [.int .u8 k, .int .i64 ((k : Int) - 1), .int .i64 (5 - (k : Int)), .int .u8 2, .int .i64 0, .string ⟨#[75]⟩, .int .i64 0, .int .i64 0, .int .i64 0, .int .i64 0, .int .i64 0, .int .i64 0, .slice (some ⟨wr.heap.size, 0, none⟩) 1 1, .slice none 0 0, .int .i64 0, .int .i64 0, .int .i64 (-1), .string ⟨#[]⟩, .int .u8 0, .slice (some ⟨wr.heap.size + 1, 0, none⟩) 1 1, .slice (some ⟨wr.heap.size + 1 + 1, 0, none⟩) 1 1] 0 _ _ BT0
        simp only [putCs, zA, zB, zC, Nat.reduceAdd] at this
        exact this
       have q := ((((Turned.refl (fun _ => False) wr).alloc (.cells #[.string ⟨#[65]⟩, .int .i64 2] 62)).alloc (.cells #[.int .i64 2, .string ⟨#[65]⟩, .int .i64 1, .int .i64 9, .int .i64 5, .bool true] 60)).alloc (.cells #[.int .i64 0, .int .i64 2, .int .i64 1099511627776] 64)).alloc (.cells #[.int .u8 0, .int .i64 0, .int .i64 0, .int .u8 0, .int .i64 0, .string ⟨#[]⟩, .int .i64 0, .int .i64 0, .int .i64 0, .int .i64 0, .int .i64 0, .int .i64 0, .slice none 0 0, .slice none 0 0, .int .i64 0, .int .i64 0, .int .i64 0, .string ⟨#[]⟩, .int .u8 0, .slice none 0 0, .slice none 0 0] 44)
       have q := q.trans (W := fun _ => False) tS (fun _ e => e) (fun i e => .inr (by omega))
       have T2 := hZ (T1.out.and_ q)
       have BL2 := hZ (BL.out.turned q (fun e => e))
       have BP := hZ (BP.turned tS (fun e => by omega))
       have BQ := hZ (BQ.turned tS (fun e => by omega))
       have BU := hZ (BU.turned tS (fun e => by omega))
       have BT := hZ BT
       clear BT0 tS q
       go_upto_region 31 with (refine wpList_store_mid rfl 44 _ _ rfl _ 0 _ rfl rfl ?_ ?_ ?_ ?_; { exact hth }; { kernel_rfl }; { rw [List.all_toArray]; rfl }; (try simp only [List.toList_toArray]); generalize ((((wr.alloc (.cells #[.string ⟨#[65]⟩, .int .i64 2] 62)).alloc (.cells #[.int .i64 2, .string ⟨#[65]⟩, .int .i64 1, .int .i64 9, .int .i64 5, .bool true] 60)).alloc (.cells #[.int .i64 0, .int .i64 2, .int .i64 1099511627776] 64)).alloc (.cells #[.int .u8 0, .int .i64 0, .int .i64 0, .int .u8 0, .int .i64 0, .string ⟨#[]⟩, .int .i64 0, .int .i64 0, .int .i64 0, .int .i64 0, .int .i64 0, .int .i64 0, .slice none 0 0, .slice none 0 0, .int .i64 0, .int .i64 0, .int .i64 0, .string ⟨#[]⟩, .int .u8 0, .slice none 0 0, .slice none 0 0] 44)).setCells (wr.heap.size + 1 + 1 + 1) 0 [.int .u8 k, .int .i64 ((k : Int) - 1), .int .i64 (5 - (k : Int)), .int .u8 2, .int .i64 0, .string ⟨#[75]⟩, .int .i64 0, .int .i64 0, .int .i64 0, .int .i64 0, .int .i64 0, .int .i64 0, .slice (some ⟨wr.heap.size, 0, none⟩) 1 1, .slice none 0 0, .int .i64 0, .int .i64 0, .int .i64 (-1), .string ⟨#[]⟩, .int .u8 0, .slice (some ⟨wr.heap.size + 1, 0, none⟩) 1 1, .slice (some ⟨wr.heap.size + 1 + 1, 0, none⟩) 1 1] = v2 at *)
       clear hth l0 l1 l2 l3 l4 l5 T1 BL
       obtain ⟨B0, hB0⟩ : ∃ B0, wr.heap.size = B0 := ⟨_, rfl⟩
       rw [hB0] at BP BQ BU BT ⊢
       clear hB0
       obtain ⟨v3, hv3, BX, q, hth⟩ := nm_tale v2 [.int .u8 k, .int .i64 (-9223372036854775808), .int .i64 9223372036854775807, .int .u8 0, .int .i64 0, .string ⟨#[]⟩, .int .i64 0, .int .i64 0, .int .i64 0, .int .i64 0, .int .i64 0, .int .i64 0, .slice none 0 0, .slice none 0 0, .int .i64 240, .int .i64 0, .int .i64 0, .string ⟨#[]⟩, .int .u8 0, .slice none 0 0, .slice none 0 0] (by simp only [putCs, zA, zB, zC, Nat.reduceAdd])
       have BX := hZ BX
       have T3 := hZ (T2.out.and_ q)
       have BL2 := hZ (BL2.out.turned q (fun e => e))
       have BP := hZ (BP.out.turned q (fun e => e))
       have BQ := hZ (BQ.out.turned q (fun e => e))
       have BU := hZ (BU.out.turned q (fun e => e))
       have BT := hZ (BT.out.turned q (fun e => e))
       clear q T2
       go_upto_region 32 with (refine wpList_store_mid rfl 44 _ _ rfl _ 0 _ rfl rfl ?_ ?_ ?_ ?_; { exact hth }; { kernel_rfl }; { rw [List.all_toArray]; rfl }; (try simp only [List.toList_toArray]); rw [hv3])
       clear hth hv3
       obtain ⟨bBX, hbBX⟩ : ∃ bBX, v2.heap.size = bBX := ⟨_, rfl⟩
       rw [hbBX] at BX ⊢
       clear hbBX
       obtain ⟨v4, hv4, BY, q, hth⟩ := nm_tale v3 [.int .u8 k, .int .i64 0, .int .i64 0, .int .u8 0, .int .i64 0, .string ⟨#[]⟩, .int .i64 0, .int .i64 0, .int .i64 0, .int .i64 0, .int .i64 0, .int .i64 0, .slice none 0 0, .slice none 0 0, .int .i64 1, .int .i64 1, .int .i64 0, .string ⟨#[]⟩, .int .u8 0, .slice none 0 0, .slice none 0 0] (by simp only [putCs, zA, zB, zC, Nat.reduceAdd])
       have BY := hZ BY
       have T4 := hZ (T3.out.and_ q)
       have BL2 := hZ (BL2.out.turned q (fun e => e))
       have BP := hZ (BP.out.turned q (fun e => e))
       have BQ := hZ (BQ.out.turned q (fun e => e))
       have BU := hZ (BU.out.turned q (fun e => e))
       have BT := hZ (BT.out.turned q (fun e => e))
       have BX := hZ (BX.out.turned q (fun e => e))
       clear q T3
       go_upto_region 33 with (refine wpList_store_mid rfl 44 _ _ rfl _ 0 _ rfl rfl ?_ ?_ ?_ ?_; { exact hth }; { kernel_rfl }; { rw [List.all_toArray]; rfl }; (try simp only [List.toList_toArray]); rw [hv4])
       clear hth hv4
       obtain ⟨bBY, hbBY⟩ : ∃ bBY, v3.heap.size = bBY := ⟨_, rfl⟩
       rw [hbBY] at BY ⊢
       clear hbBY
       have hrg := BT.out.range21
       have hTc := hZ (hT.out v4 (tale5 k) ⟨⟨some ⟨B0, 0, none⟩, 1, 1⟩, Sl.nil⟩ ⟨⟨some ⟨B0 + 1, 0, none⟩, 1, 1⟩, ⟨some ⟨B0 + 1 + 1, 0, none⟩, 1, 1⟩⟩ T4.out (tale5_ask BP.out) (tale5_tell BQ.out BU.out) (tale5_ok (by omega) (by omega)) ⟨by simp [tale5], by simp [tale5], by simp [tale5]⟩ ⟨by simp [tale5], by simp [tale5], by simp [tale5]⟩)
       unfold taleC tale5 Sl.nil strV at hTc
       simp only at hTc
       go_wp2_with (refine wpList_load_mid rfl 44 _ rfl (B0 + 1 + 1 + 1) 0 rfl [.int .u8 k, .int .i64 ((k : Int) - 1), .int .i64 (5 - (k : Int)), .int .u8 2, .int .i64 0, .string ⟨#[75]⟩, .int .i64 0, .int .i64 0, .int .i64 0, .int .i64 0, .int .i64 0, .int .i64 0, .slice (some ⟨B0, 0, none⟩) 1 1, .slice none 0 0, .int .i64 0, .int .i64 0, .int .i64 (-1), .string ⟨#[]⟩, .int .u8 0, .slice (some ⟨B0 + 1, 0, none⟩) 1 1, .slice (some ⟨B0 + 1 + 1, 0, none⟩) 1 1] _ hrg Tryz.underlying44 rfl (by kernel_rfl) ?_; clear hrg)
       refine hTc.out.mono ?_
       rintro e v5 ⟨rfl, q⟩
       have T5 := hZ (T4.out.and_ q)
       have BL2 := hZ (BL2.out.turned q (fun e => e))
       have BX := hZ (BX.out.turned q (fun e => e))
       have BY := hZ (BY.out.turned q (fun e => e))
       clear q hTc T4
       have hrg := BX.out.range21
       have hTc := hZ (hT.out v5 (tale6 k) AskS.nil TellS.nil T5.out (askIs_nil _ _ rfl rfl) (TellIs.nil _ _ rfl rfl) (tale6_ok (by omega) (by omega)) ⟨by simp [tale6, AskV.zero], by simp [tale6, AskV.zero], by simp [tale6, AskV.zero]⟩ ⟨by simp [tale6], by simp [tale6], by simp [tale6]⟩)
       unfold taleC tale6 AskV.zero AskS.nil TellS.nil Sl.nil strV at hTc
       simp only at hTc
       go_wp2_with (refine wpList_load_want rfl 44 _ rfl bBX 0 rfl [.int .u8 k, .int .i64 (-9223372036854775808), .int .i64 9223372036854775807, .int .u8 0, .int .i64 0, .string ⟨#[]⟩, .int .i64 0, .int .i64 0, .int .i64 0, .int .i64 0, .int .i64 0, .int .i64 0, .slice none 0 0, .slice none 0 0, .int .i64 240, .int .i64 0, .int .i64 0, .string ⟨#[]⟩, .int .u8 0, .slice none 0 0, .slice none 0 0] _ hrg Tryz.underlying44 rfl (by kernel_rfl) ?_; clear hrg)
       refine hTc.out.mono ?_
       rintro e v6 ⟨rfl, q⟩
       have T6 := hZ (T5.out.and_ q)
       have BL2 := hZ (BL2.out.turned q (fun e => e))
       have BY := hZ (BY.out.turned q (fun e => e))
       clear q hTc T5
       have hrg := BY.out.range21
       have hTc := hZ (hT.out v6 (tale7 k) AskS.nil TellS.nil T6.out (askIs_nil _ _ rfl rfl) (TellIs.nil _ _ rfl rfl) (tale7_ok (by omega) (by omega)) ⟨by simp [tale7, AskV.zero], by simp [tale7, AskV.zero], by simp [tale7, AskV.zero]⟩ ⟨by simp [tale7], by simp [tale7], by simp [tale7]⟩)
       unfold taleC tale7 AskV.zero AskS.nil TellS.nil Sl.nil strV at hTc
       simp only at hTc
       go_wp2_with (refine wpList_load_want rfl 44 _ rfl bBY 0 rfl [.int .u8 k, .int .i64 0, .int .i64 0, .int .u8 0, .int .i64 0, .string ⟨#[]⟩, .int .i64 0, .int .i64 0, .int .i64 0, .int .i64 0, .int .i64 0, .int .i64 0, .slice none 0 0, .slice none 0 0, .int .i64 1, .int .i64 1, .int .i64 0, .string ⟨#[]⟩, .int .u8 0, .slice none 0 0, .slice none 0 0] _ hrg Tryz.underlying44 rfl (by kernel_rfl) ?_; clear hrg)
       refine hTc.out.mono ?_
       rintro e v7 ⟨rfl, q⟩
       have T7 := hZ (T6.out.and_ q)
       have BL2 := hZ (BL2.out.turned q (fun e => e))
       clear q hTc T6
       go_wp2_with fail
       go_roundw
       case rel => exact ⟨k + 1, hlt3, by go_num, BL2.out, T7.out⟩
       case measure => simp [intOf] <;> omega
      ·have hge3 : (6 : Int) ≤ (k : Int) := by omega
       go_wp2_with fail
       refine (blanks_any 1048572 _ (by omega)).mono ?_
       rintro e v2 ⟨rfl, q⟩
       have T2 := hZ (T1.out.and_ q)
       obtain ⟨z, hz, hzd0, hzz⟩ := many_blanks 1048572
       rw [← hz]
       have hzd := hZ hzd0
       clear hz hzd0 q T1
       have hbz : (z ++ (⟨#[109, 97, 114, 107]⟩ : ByteArray)).size ≤ 1048600 := by rw [ByteArray.size_append]; have := (show (⟨#[109, 97, 114, 107]⟩ : ByteArray).size = 4 from rfl); omega
       go_wp2_with fail
       obtain ⟨sx, hsx0⟩ : ∃ sx, lineRes (List.replicate 1048572 32 ++ [109, 97, 114, 107]) = (sx, 0) := mark_read
       have hsx := hZ hsx0
       have hrd := hZ (show (z ++ (⟨#[109, 97, 114, 107]⟩ : ByteArray)).data.toList = List.replicate 1048572 32 ++ [109, 97, 114, 107] from by rw [bapp, hzd.out])
       clear hsx0
       refine (hL.out v2 _ (by omega) T2.out).mono ?_
       rintro e v3 ⟨S5, F5, rfl, ho5, hok5, q⟩
       rw [hrd.out, hsx.out]
       have T3 := hZ (T2.out.and_ q)
       clear q T2 ho5 hok5 hrd hbz hzd hzz hsx
       obtain ⟨xk, xs, xn, ⟨ak, ar, ai, aq, ad, al, aa, at_, an, ap, ao⟩, xf⟩ := sx
       obtain ⟨⟨PA, Pn, Pc⟩, ⟨QA, Qn, Qc⟩⟩ := S5
       obtain ⟨FA, Fn, Fc⟩ := F5
       unfold stpC strV
       simp only
       go_upto_region 36 with fail
       have q := (Turned.refl (fun _ => False) v3).alloc (.cells #[.int .u8 xk, .int .i64 xs, .int .i64 xn, .int .u8 ak, .int .i64 ar, .string ⟨ai.toArray⟩, .int .i64 aq, .int .i64 ad, .int .i64 al, .int .i64 aa, .int .i64 at_, .int .i64 an, .slice PA Pn Pc, .slice QA Qn Qc, .slice FA Fn Fc] 31)
       have T4 := hZ (T3.out.and_ q)
       obtain ⟨v4, hv4⟩ : ∃ v4, v4 = v3.alloc (.cells #[.int .u8 xk, .int .i64 xs, .int .i64 xn, .int .u8 ak, .int .i64 ar, .string ⟨ai.toArray⟩, .int .i64 aq, .int .i64 ad, .int .i64 al, .int .i64 aa, .int .i64 at_, .int .i64 an, .slice PA Pn Pc, .slice QA Qn Qc, .slice FA Fn Fc] 31) := ⟨_, rfl⟩
       rw [← hv4] at T4 ⊢
       clear hv4 q T3
       generalize v3.heap.size = bs1 at *
       go_wp2_with fail
       refine (blanks_any 1048573 _ (by omega)).mono ?_
       rintro e v5 ⟨rfl, q⟩
       have T5 := hZ (T4.out.and_ q)
       obtain ⟨z, hz, hzd0, hzz⟩ := many_blanks 1048573
       rw [← hz]
       have hzd := hZ hzd0
       clear hz hzd0 q T4
       have hbz : (z ++ (⟨#[109, 97, 114, 107]⟩ : ByteArray)).size ≤ 1048600 := by rw [ByteArray.size_append]; have := (show (⟨#[109, 97, 114, 107]⟩ : ByteArray).size = 4 from rfl); omega
       go_wp2_with fail
       obtain ⟨sx, hsx0⟩ : ∃ sx, lineRes (List.replicate 1048573 32 ++ [109, 97, 114, 107]) = (sx, 3) := mark_long
       have hsx := hZ hsx0
       have hrd := hZ (show (z ++ (⟨#[109, 97, 114, 107]⟩ : ByteArray)).data.toList = List.replicate 1048573 32 ++ [109, 97, 114, 107] from by rw [bapp, hzd.out])
       clear hsx0
       refine (hL.out v5 _ (by omega) T5.out).mono ?_
       rintro e v6 ⟨S5, F5, rfl, ho5, hok5, q⟩
       rw [hrd.out, hsx.out]
       have T6 := hZ (T5.out.and_ q)
       clear q T5 ho5 hok5 hrd hbz hzd hzz hsx
       obtain ⟨xk, xs, xn, ⟨ak, ar, ai, aq, ad, al, aa, at_, an, ap, ao⟩, xf⟩ := sx
       obtain ⟨⟨PA, Pn, Pc⟩, ⟨QA, Qn, Qc⟩⟩ := S5
       obtain ⟨FA, Fn, Fc⟩ := F5
       unfold stpC strV
       simp only
       go_upto_region 37 with fail
       have q := (Turned.refl (fun _ => False) v6).alloc (.cells #[.int .u8 xk, .int .i64 xs, .int .i64 xn, .int .u8 ak, .int .i64 ar, .string ⟨ai.toArray⟩, .int .i64 aq, .int .i64 ad, .int .i64 al, .int .i64 aa, .int .i64 at_, .int .i64 an, .slice PA Pn Pc, .slice QA Qn Qc, .slice FA Fn Fc] 31)
       have T7 := hZ (T6.out.and_ q)
       obtain ⟨v7, hv7⟩ : ∃ v7, v7 = v6.alloc (.cells #[.int .u8 xk, .int .i64 xs, .int .i64 xn, .int .u8 ak, .int .i64 ar, .string ⟨ai.toArray⟩, .int .i64 aq, .int .i64 ad, .int .i64 al, .int .i64 aa, .int .i64 at_, .int .i64 an, .slice PA Pn Pc, .slice QA Qn Qc, .slice FA Fn Fc] 31) := ⟨_, rfl⟩
       rw [← hv7] at T7 ⊢
       clear hv7 q T6
       generalize v6.heap.size = bs4 at *
       go_wp2_with fail
       refine (hA.out _ T7.out).mono ?_
       rintro e v8 ⟨rfl, q⟩
       have T8 := hZ (T7.out.and_ q)
       go_wp2_with fail
       go_ret
       exact ⟨rfl, T8.out⟩
end Go.Proofs.YtglojnmcbochaaaGreatDoor

