/-
  storemanlaw13.AskGets: of any bytes the command that they begin with, or that they do with none, is what the document tells; they stay, and are not kept; what is got twice lies apart. Conditions: ask.kinds holds what its initialiser lays.
-/
import Derived.Test.YtijmfglgeaaoaaaGreatDoorQAskV
import Derived.Test.YtijmfglgeaaoaaaGreatDoorQAskL
import Derived.Test.YtijmfglgeaaoaaaGreatDoorQApA
import Derived.Deep.CutRange
namespace Go.Proofs.YtijmfglgeaaoaaaGreatDoor
open Go.RowKit Go.Maps
set_option linter.unusedVariables false
set_option linter.unusedSimpArgs false

/-- What Get tells of bytes: the command, how many go by, the errno. -/
def gotA (zs : List Int) : AskV × Int × Int := match getA zs with | some (a, n) => (a, (n : Int), 0) | none => (AskV.zero, 0, 4)
theorem right_few {a : AskV} (h : rightA a = true) : a.parts.length ≤ 8 ∧ a.others.length ≤ 4 := by
  obtain ⟨f, _, _, _, hfit⟩ := rightA_some h
  have h1 := hfit 112 (by decide)
  have h2 := hfit 111 (by decide)
  unfold fitF at h1 h2
  refine ⟨?_, ?_⟩
  · by_cases e : f.contains 112 = true
    · rw [if_pos e] at h1
      exact (partsB_mem (show partsB a.parts = true from h1)).2.1
    · rw [if_neg e] at h1
      simp [zeroF] at h1
      simp [h1]
  · by_cases e : f.contains 111 = true
    · rw [if_pos e] at h2
      exact (othersB_mem (show othersB a.others a.item = true from h2)).1
    · rw [if_neg e] at h2
      simp [zeroF] at h2
      simp [h2]
theorem AskOwn.few {w : World} {B : Nat} {a : AskV} {S : AskS} (h : AskOwn w B a S) (h1 : a.parts.length ≤ 8) (h2 : a.others.length ≤ 4) : AskFew S := by
  have a1 := h.parts.len
  have a2 := h.others.len
  rw [partC_length] at a1
  rw [textC_length] at a2
  exact ⟨by omega, by omega⟩
def GotP (a : AskV) (m f : Int) (w : World) (e : Ending) (w' : World) : Prop := ∃ S, e = .returned (.tuple #[.agg (askC a S), .int .i64 m, .int .i64 f]) ∧ AskOwn w' w.heap.size a S ∧ AskFew S ∧ Turned (fun _ => False) w w'
theorem aget_got {zs : List Int} (hb : ∀ z ∈ zs, isByte z) {w w' : World} {e : Ending} (h : AGet zs w e w') : GotP (gotA zs).1 (gotA zs).2.1 (gotA zs).2.2 w e w' := by
  unfold gotA
  rcases h with ⟨a, n, S, hg, he, ho, _, ht⟩ | ⟨hg, he, ht⟩
  · rw [hg]
    have h1 := right_few (aput_get hb hg).1
    exact ⟨S, he, ho, ho.few h1.1 h1.2, ht⟩
  · rw [hg]
    exact ⟨AskS.nil, he, ⟨OwnE.nil _ _ _, OwnE.nil _ _ _, (fun g e => by cases e), (fun g e => by cases e)⟩, ⟨Nat.zero_le _, Nat.zero_le _⟩, ht⟩
theorem got_calls {P : Program} {F : Nat} {args : Array Value} {zs : List Int} (hb : ∀ z ∈ zs, isByte z) {w : World} {a : AskV} {m f : Int} (h : Calls P F args w (AGet zs w)) (hg : gotA zs = (a, m, f)) : Calls P F args w (GotP a m f w) :=
  h.mono (fun e w' hr => by have := aget_got hb hr; rw [hg] at this; exact this)
theorem AskOwn.far {w w' : World} {W : Nat → Prop} {B : Nat} {a : AskV} {S : AskS} (h : AskOwn w B a S) (ht : Turned W w w') (hW : ∀ i, W i → i < B) : AskOwn w' B a S :=
  ⟨h.parts.turned ht (fun g e e2 => by have := h.pB g e; have := hW g e2; omega), h.others.turned ht (fun g e e2 => by have := h.oB g e; have := hW g e2; omega), h.pB, h.oB⟩
theorem AskLt.le {S : AskS} {B B' : Nat} (h : AskLt S B) (hB : B ≤ B') : AskLt S B' := ⟨fun g e => Nat.lt_of_lt_of_le (h.p g e) hB, fun g e => Nat.lt_of_lt_of_le (h.o g e) hB⟩
set_option maxRecDepth 100000 in
set_option maxHeartbeats 4000000 in
theorem askGets_any (A : Option Addr) (n c : Nat) (zs : List Int) (w : World) (hKs : KindsOk w) (h : BytS w A n c zs) (hb : ∀ z ∈ zs, isByte z) (hnc : n ≤ c) (hcm : c ≤ maxLen) (_z : n ≤ 140737488355328) :
    Calls Tryz.prog 3 #[.slice A n c] w (OkNew w) := by
  have hcm2 := hcm
  unfold maxLen at hcm2
  by_cases hgt : 100000 < n
  · have hi : (100000 : Int) < (n : Int) := by omega
    go_enter Tryz.func3, Tryz.ntmps3
    go_wp2_with fail
    refine (awake13_any _ hKs).mono ?_
    rintro e w1 ⟨rfl, t1⟩
    go_wp2_with fail
    go_ret
    exact ⟨rfl, t1⟩
  · have hi : (n : Int) ≤ 100000 := by omega
    have hn : n ≤ 100000 := by omega
    have hy' := Lib.hid h
    have hb' := Lib.hid hb
    have hl' := Lib.hid h.len
    have KS := Lib.hid hKs
    clear h hb hgt hKs
    obtain ⟨a, m, f, hgot⟩ : ∃ a m f, gotA zs = (a, m, f) := ⟨_, _, _, rfl⟩
    have HG := Lib.hid (fun (A' : Option Addr) (c' : Nat) (w' : World) (h' : BytS w' A' n c' zs) (hnc' : n ≤ c') (hc' : c' ≤ maxLen) (hk' : KindsOk w') => got_calls hb'.out (ask_get_any A' n c' zs w' h' hb'.out hnc' hc' (by omega) hk') hgot)
    have HF := Lib.hid (fun (w' : World) (h' : BytS w' A n c zs) => got_calls hb'.out (rask_get_any A n c zs w' h' hb'.out hnc hcm (by omega)) hgot)
    clear hgot
    obtain ⟨kind, request, item, qty, day, days, rank, lot, line, parts, others⟩ := a
    go_enter Tryz.func3, Tryz.ntmps3
    go_wp2_with fail
    refine (lent_bytes A n c zs _ hy'.out (by omega)).mono ?_
    rintro e w1 ⟨g, rfl, r1, g1, t1⟩
    have R1 := Lib.hid r1
    have T1 := Lib.hid t1
    have G1 := Lib.hid g1
    have Lg := Lib.hid r1.lt
    clear r1 t1 g1
    go_wp2_with fail
    have C1 := Lib.hid (fun (w' : World) (t : Turned (fun _ => False) w1 w') => (by have := (R1.out.turned t (fun e => e)).cut (k := n) (by omega); rw [List.take_left' (by exact hl'.out)] at this; exact this : RowB w' 5 g n (n + 12) zs))
    refine (HG.out (some ⟨g, 0, none⟩) (n + 12) w1 ((C1.out _ (Turned.refl _ _)).bytS (n + 12)) (by omega) (by unfold maxLen; omega) (KS.out.fresh T1.out)).mono ?_
    rintro e w2 ⟨⟨⟨PA1, Pn1, Pc1⟩, ⟨OA1, On1, Oc1⟩⟩, rfl, own1, few1, t2⟩
    unfold askC strV
    simp only
    have B1 := Lib.hid (Blk.new w2 29 (#[.int .u8 kind, .int .i64 request, .string ⟨item.toArray⟩, .int .i64 qty, .int .i64 day, .int .i64 days, .int .i64 rank, .int .i64 lot, .int .i64 line, .slice PA1 Pn1 Pc1, .slice OA1 On1 Oc1]))
    have v2 := t2.alloc (.cells (#[.int .u8 kind, .int .i64 request, .string ⟨item.toArray⟩, .int .i64 qty, .int .i64 day, .int .i64 days, .int .i64 rank, .int .i64 lot, .int .i64 line, .slice PA1 Pn1 Pc1, .slice OA1 On1 Oc1]) 29)
    have O1 := Lib.hid (own1.fresh ((Turned.refl (fun _ => False) w2).alloc (.cells (#[.int .u8 kind, .int .i64 request, .string ⟨item.toArray⟩, .int .i64 qty, .int .i64 day, .int .i64 days, .int .i64 rank, .int .i64 lot, .int .i64 line, .slice PA1 Pn1 Pc1, .slice OA1 On1 Oc1]) 29)))
    have K1 := Lib.hid own1.lt_
    have T3 := Lib.hid (T1.out.and_ v2)
    have U3 := Lib.hid v2
    have z2 := Lib.hid t2.size
    clear own1 t2 v2 T1
    go_wp2_with fail
    generalize w2.alloc (.cells #[.int .u8 kind, .int .i64 request, .string ⟨item.toArray⟩, .int .i64 qty, .int .i64 day, .int .i64 days, .int .i64 rank, .int .i64 lot, .int .i64 line, .slice PA1 Pn1 Pc1, .slice OA1 On1 Oc1] 29) = w3 at *
    obtain ⟨b1, hb1⟩ : ∃ b1, b1 = w2.heap.size := ⟨_, rfl⟩
    rw [← hb1] at B1 ⊢
    have Z1 := Lib.hid (show w1.heap.size ≤ b1 by rw [hb1]; exact z2.out)
    have Z2 := Lib.hid B1.out.lt
    have K1 := Lib.hid (K1.out.le (show w2.heap.size ≤ w3.heap.size by rw [← hb1]; exact Nat.le_of_lt Z2.out))
    clear hb1 z2
    refine (HG.out (some ⟨g, 0, none⟩) (n + 12) w3 ((C1.out _ U3.out).bytS (n + 12)) (by omega) (by unfold maxLen; omega) (KS.out.fresh T3.out)).mono ?_
    rintro e w4 ⟨⟨⟨PA2, Pn2, Pc2⟩, ⟨OA2, On2, Oc2⟩⟩, rfl, own2, few2, t4⟩
    unfold askC strV
    simp only
    have B2 := Lib.hid (Blk.new w4 29 (#[.int .u8 kind, .int .i64 request, .string ⟨item.toArray⟩, .int .i64 qty, .int .i64 day, .int .i64 days, .int .i64 rank, .int .i64 lot, .int .i64 line, .slice PA2 Pn2 Pc2, .slice OA2 On2 Oc2]))
    have v4 := t4.alloc (.cells (#[.int .u8 kind, .int .i64 request, .string ⟨item.toArray⟩, .int .i64 qty, .int .i64 day, .int .i64 days, .int .i64 rank, .int .i64 lot, .int .i64 line, .slice PA2 Pn2 Pc2, .slice OA2 On2 Oc2]) 29)
    have O2 := Lib.hid (own2.fresh ((Turned.refl (fun _ => False) w4).alloc (.cells (#[.int .u8 kind, .int .i64 request, .string ⟨item.toArray⟩, .int .i64 qty, .int .i64 day, .int .i64 days, .int .i64 rank, .int .i64 lot, .int .i64 line, .slice PA2 Pn2 Pc2, .slice OA2 On2 Oc2]) 29)))
    have O1 := Lib.hid (O1.out.fresh v4)
    have B1 := Lib.hid (B1.out.turned v4 (fun e => e))
    have T5 := Lib.hid (T3.out.and_ v4)
    have U5 := Lib.hid (U3.out.and_ v4)
    have z4 := Lib.hid t4.size
    clear own2 t4 v4 T3 U3
    go_wp2_with fail
    generalize w4.alloc (.cells #[.int .u8 kind, .int .i64 request, .string ⟨item.toArray⟩, .int .i64 qty, .int .i64 day, .int .i64 days, .int .i64 rank, .int .i64 lot, .int .i64 line, .slice PA2 Pn2 Pc2, .slice OA2 On2 Oc2] 29) = w5 at *
    obtain ⟨b2, hb2⟩ : ∃ b2, b2 = w4.heap.size := ⟨_, rfl⟩
    rw [← hb2] at B2 ⊢
    have Z3 := Lib.hid (show w3.heap.size ≤ b2 by rw [hb2]; exact z4.out)
    clear hb2 z4
    refine (kept_bytes A n c g (n + 12) zs w5 (R1.out.turned U5.out (fun e => e)) (hy'.out.turned T5.out (fun _ _ _ e => e)).toBytR (by omega)).mono ?_
    rintro e w6 ⟨rfl, nq, rfl⟩
    have d6 := (Turned.refl (fun _ => False) w5).drewN nq
    have O1 := Lib.hid (O1.out.fresh d6)
    have O2 := Lib.hid (O2.out.fresh d6)
    have B1 := Lib.hid (B1.out.turned d6 (fun e => e))
    have B2 := Lib.hid (B2.out.turned d6 (fun e => e))
    have T6 := Lib.hid (T5.out.and_ d6)
    have R6 := Lib.hid (R1.out.turned (U5.out.and_ d6) (fun e => e))
    clear d6 T5 U5 R1 C1
    generalize w5.drewN nq = w6 at *
    go_wp2_with fail
    refine (over_bytes n g (n + 12) _ w6 R6.out (by omega)).mono ?_
    rintro e w7 ⟨rfl, _, t7⟩
    obtain ⟨y1, y2, y3, y4⟩ := And.intro Lg.out (And.intro Z1.out (And.intro Z2.out Z3.out))
    have T7 := Lib.hid (T6.out.trans (W := fun _ => False) t7 (fun _ e => e) (fun k e => .inr (by subst e; exact G1.out)))
    have O1 := Lib.hid (O1.out.far t7 (fun i e => by omega))
    have O2 := Lib.hid (O2.out.far t7 (fun i e => by omega))
    have B1 := Lib.hid (B1.out.turned t7 (fun e => by omega))
    have B2 := Lib.hid (B2.out.turned t7 (fun e => by omega))
    clear t7 y1 y2 y3 y4 T6 R6
    go_wp2_with fail
    refine (HF.out w7 (hy'.out.turned T7.out (fun _ _ _ e => e))).mono ?_
    rintro e w8 ⟨⟨⟨PA3, Pn3, Pc3⟩, ⟨OA3, On3, Oc3⟩⟩, rfl, own3, few3, t8⟩
    unfold askC strV
    simp only
    have B3 := Lib.hid (Blk.new w8 29 (#[.int .u8 kind, .int .i64 request, .string ⟨item.toArray⟩, .int .i64 qty, .int .i64 day, .int .i64 days, .int .i64 rank, .int .i64 lot, .int .i64 line, .slice PA3 Pn3 Pc3, .slice OA3 On3 Oc3]))
    have v8 := t8.alloc (.cells (#[.int .u8 kind, .int .i64 request, .string ⟨item.toArray⟩, .int .i64 qty, .int .i64 day, .int .i64 days, .int .i64 rank, .int .i64 lot, .int .i64 line, .slice PA3 Pn3 Pc3, .slice OA3 On3 Oc3]) 29)
    have O3 := Lib.hid (own3.fresh ((Turned.refl (fun _ => False) w8).alloc (.cells (#[.int .u8 kind, .int .i64 request, .string ⟨item.toArray⟩, .int .i64 qty, .int .i64 day, .int .i64 days, .int .i64 rank, .int .i64 lot, .int .i64 line, .slice PA3 Pn3 Pc3, .slice OA3 On3 Oc3]) 29)))
    have O1 := Lib.hid (O1.out.fresh v8)
    have O2 := Lib.hid (O2.out.fresh v8)
    have B1 := Lib.hid (B1.out.turned v8 (fun e => e))
    have B2 := Lib.hid (B2.out.turned v8 (fun e => e))
    have T9 := Lib.hid (T7.out.and_ v8)
    clear own3 t8 v8 T7
    go_upto_region 10 with fail
    generalize w8.alloc (.cells #[.int .u8 kind, .int .i64 request, .string ⟨item.toArray⟩, .int .i64 qty, .int .i64 day, .int .i64 days, .int .i64 rank, .int .i64 lot, .int .i64 line, .slice PA3 Pn3 Pc3, .slice OA3 On3 Oc3] 29) = w9 at *
    obtain ⟨b3, hb3⟩ : ∃ b3, b3 = w8.heap.size := ⟨_, rfl⟩
    rw [← hb3] at B3 ⊢
    clear hb3
    obtain ⟨x1_0, x1_1, x1_2, x1_3, x1_4, x1_5, x1_6, x1_7, x1_8, x1_9, x1_10⟩ := B1.out.cells11
    obtain ⟨x2_0, x2_1, x2_2, x2_3, x2_4, x2_5, x2_6, x2_7, x2_8, x2_9, x2_10⟩ := B2.out.cells11
    obtain ⟨x3_0, x3_1, x3_2, x3_3, x3_4, x3_5, x3_6, x3_7, x3_8, x3_9, x3_10⟩ := B3.out.cells11
    go_wp2_with fail
    clear x1_0 x1_1 x1_2 x1_3 x1_4 x1_5 x1_6 x1_7 x1_8 x1_9 x1_10 x2_0 x2_1 x2_2 x2_3 x2_4 x2_5 x2_6 x2_7 x2_8 x2_9 x2_10 x3_0 x3_1 x3_2 x3_3 x3_4 x3_5 x3_6 x3_7 x3_8 x3_9 x3_10
    have hs := sameA_any ⟨kind, request, item, qty, day, days, rank, lot, line, parts, others⟩ ⟨⟨PA1, Pn1, Pc1⟩, ⟨OA1, On1, Oc1⟩⟩ ⟨⟨PA3, Pn3, Pc3⟩, ⟨OA3, On3, Oc3⟩⟩ w9 O1.out.is O3.out.is
    unfold askC strV at hs
    simp only at hs
    refine hs.mono ?_
    clear hs
    rintro e w10 ⟨rfl, t10⟩
    have O1 := Lib.hid (O1.out.fresh t10)
    have B1 := Lib.hid (B1.out.turned t10 (fun e => e))
    have O2 := Lib.hid (O2.out.fresh t10)
    have B2 := Lib.hid (B2.out.turned t10 (fun e => e))
    have O3 := Lib.hid (O3.out.fresh t10)
    have B3 := Lib.hid (B3.out.turned t10 (fun e => e))
    have T10 := Lib.hid (T9.out.and_ t10)
    clear t10 T9
    obtain ⟨x1_0, x1_1, x1_2, x1_3, x1_4, x1_5, x1_6, x1_7, x1_8, x1_9, x1_10⟩ := B1.out.cells11
    obtain ⟨x2_0, x2_1, x2_2, x2_3, x2_4, x2_5, x2_6, x2_7, x2_8, x2_9, x2_10⟩ := B2.out.cells11
    obtain ⟨x3_0, x3_1, x3_2, x3_3, x3_4, x3_5, x3_6, x3_7, x3_8, x3_9, x3_10⟩ := B3.out.cells11
    go_wp2_with fail
    clear x1_0 x1_1 x1_2 x1_3 x1_4 x1_5 x1_6 x1_7 x1_8 x1_9 x1_10 x2_0 x2_1 x2_2 x2_3 x2_4 x2_5 x2_6 x2_7 x2_8 x2_9 x2_10 x3_0 x3_1 x3_2 x3_3 x3_4 x3_5 x3_6 x3_7 x3_8 x3_9 x3_10
    have hs := sameA_any ⟨kind, request, item, qty, day, days, rank, lot, line, parts, others⟩ ⟨⟨PA2, Pn2, Pc2⟩, ⟨OA2, On2, Oc2⟩⟩ ⟨⟨PA3, Pn3, Pc3⟩, ⟨OA3, On3, Oc3⟩⟩ w10 O2.out.is O3.out.is
    unfold askC strV at hs
    simp only at hs
    refine hs.mono ?_
    clear hs
    rintro e w11 ⟨rfl, t11⟩
    have O1 := Lib.hid (O1.out.fresh t11)
    have B1 := Lib.hid (B1.out.turned t11 (fun e => e))
    have O2 := Lib.hid (O2.out.fresh t11)
    have B2 := Lib.hid (B2.out.turned t11 (fun e => e))
    have T11 := Lib.hid (T10.out.and_ t11)
    clear t11 T10 O3 B3
    obtain ⟨x1_0, x1_1, x1_2, x1_3, x1_4, x1_5, x1_6, x1_7, x1_8, x1_9, x1_10⟩ := B1.out.cells11
    obtain ⟨x2_0, x2_1, x2_2, x2_3, x2_4, x2_5, x2_6, x2_7, x2_8, x2_9, x2_10⟩ := B2.out.cells11
    have q2_0 : (w11.alloc (.cells #[.int .u8 kind, .int .i64 request, .string ⟨item.toArray⟩, .int .i64 qty, .int .i64 day, .int .i64 days, .int .i64 rank, .int .i64 lot, .int .i64 line, .slice PA1 Pn1 Pc1, .slice OA1 On1 Oc1] 29)).cell? ⟨b2, 0, none⟩ = some (.int .u8 kind) := (B2.out.alloc _).cell 0
    have q2_1 : (w11.alloc (.cells #[.int .u8 kind, .int .i64 request, .string ⟨item.toArray⟩, .int .i64 qty, .int .i64 day, .int .i64 days, .int .i64 rank, .int .i64 lot, .int .i64 line, .slice PA1 Pn1 Pc1, .slice OA1 On1 Oc1] 29)).cell? ⟨b2, 1, none⟩ = some (.int .i64 request) := (B2.out.alloc _).cell 1
    have q2_2 : (w11.alloc (.cells #[.int .u8 kind, .int .i64 request, .string ⟨item.toArray⟩, .int .i64 qty, .int .i64 day, .int .i64 days, .int .i64 rank, .int .i64 lot, .int .i64 line, .slice PA1 Pn1 Pc1, .slice OA1 On1 Oc1] 29)).cell? ⟨b2, 2, none⟩ = some (.string ⟨item.toArray⟩) := (B2.out.alloc _).cell 2
    have q2_3 : (w11.alloc (.cells #[.int .u8 kind, .int .i64 request, .string ⟨item.toArray⟩, .int .i64 qty, .int .i64 day, .int .i64 days, .int .i64 rank, .int .i64 lot, .int .i64 line, .slice PA1 Pn1 Pc1, .slice OA1 On1 Oc1] 29)).cell? ⟨b2, 3, none⟩ = some (.int .i64 qty) := (B2.out.alloc _).cell 3
    have q2_4 : (w11.alloc (.cells #[.int .u8 kind, .int .i64 request, .string ⟨item.toArray⟩, .int .i64 qty, .int .i64 day, .int .i64 days, .int .i64 rank, .int .i64 lot, .int .i64 line, .slice PA1 Pn1 Pc1, .slice OA1 On1 Oc1] 29)).cell? ⟨b2, 4, none⟩ = some (.int .i64 day) := (B2.out.alloc _).cell 4
    have q2_5 : (w11.alloc (.cells #[.int .u8 kind, .int .i64 request, .string ⟨item.toArray⟩, .int .i64 qty, .int .i64 day, .int .i64 days, .int .i64 rank, .int .i64 lot, .int .i64 line, .slice PA1 Pn1 Pc1, .slice OA1 On1 Oc1] 29)).cell? ⟨b2, 5, none⟩ = some (.int .i64 days) := (B2.out.alloc _).cell 5
    have q2_6 : (w11.alloc (.cells #[.int .u8 kind, .int .i64 request, .string ⟨item.toArray⟩, .int .i64 qty, .int .i64 day, .int .i64 days, .int .i64 rank, .int .i64 lot, .int .i64 line, .slice PA1 Pn1 Pc1, .slice OA1 On1 Oc1] 29)).cell? ⟨b2, 6, none⟩ = some (.int .i64 rank) := (B2.out.alloc _).cell 6
    have q2_7 : (w11.alloc (.cells #[.int .u8 kind, .int .i64 request, .string ⟨item.toArray⟩, .int .i64 qty, .int .i64 day, .int .i64 days, .int .i64 rank, .int .i64 lot, .int .i64 line, .slice PA1 Pn1 Pc1, .slice OA1 On1 Oc1] 29)).cell? ⟨b2, 7, none⟩ = some (.int .i64 lot) := (B2.out.alloc _).cell 7
    have q2_8 : (w11.alloc (.cells #[.int .u8 kind, .int .i64 request, .string ⟨item.toArray⟩, .int .i64 qty, .int .i64 day, .int .i64 days, .int .i64 rank, .int .i64 lot, .int .i64 line, .slice PA1 Pn1 Pc1, .slice OA1 On1 Oc1] 29)).cell? ⟨b2, 8, none⟩ = some (.int .i64 line) := (B2.out.alloc _).cell 8
    have q2_9 : (w11.alloc (.cells #[.int .u8 kind, .int .i64 request, .string ⟨item.toArray⟩, .int .i64 qty, .int .i64 day, .int .i64 days, .int .i64 rank, .int .i64 lot, .int .i64 line, .slice PA1 Pn1 Pc1, .slice OA1 On1 Oc1] 29)).cell? ⟨b2, 9, none⟩ = some (.slice PA2 Pn2 Pc2) := (B2.out.alloc _).cell 9
    have q2_10 : (w11.alloc (.cells #[.int .u8 kind, .int .i64 request, .string ⟨item.toArray⟩, .int .i64 qty, .int .i64 day, .int .i64 days, .int .i64 rank, .int .i64 lot, .int .i64 line, .slice PA1 Pn1 Pc1, .slice OA1 On1 Oc1] 29)).cell? ⟨b2, 10, none⟩ = some (.slice OA2 On2 Oc2) := (B2.out.alloc _).cell 10
    go_wp2_with fail
    clear x1_0 x1_1 x1_2 x1_3 x1_4 x1_5 x1_6 x1_7 x1_8 x1_9 x1_10 x2_0 x2_1 x2_2 x2_3 x2_4 x2_5 x2_6 x2_7 x2_8 x2_9 x2_10
    clear q2_0 q2_1 q2_2 q2_3 q2_4 q2_5 q2_6 q2_7 q2_8 q2_9 q2_10
    have tq := (((Turned.refl (fun _ => False) w11).alloc (.cells #[.int .u8 kind, .int .i64 request, .string ⟨item.toArray⟩, .int .i64 qty, .int .i64 day, .int .i64 days, .int .i64 rank, .int .i64 lot, .int .i64 line, .slice PA1 Pn1 Pc1, .slice OA1 On1 Oc1] 29)).alloc (.cells #[.int .u8 kind, .int .i64 request, .string ⟨item.toArray⟩, .int .i64 qty, .int .i64 day, .int .i64 days, .int .i64 rank, .int .i64 lot, .int .i64 line, .slice PA2 Pn2 Pc2, .slice OA2 On2 Oc2] 29)).alloc (.cells #[.slice (some ⟨w11.heap.size, 0, none⟩) 1 1, .slice (some ⟨w11.heap.size + 1, 0, none⟩) 1 1] 37)
    have hA := ((Blk.new w11 29 (#[.int .u8 kind, .int .i64 request, .string ⟨item.toArray⟩, .int .i64 qty, .int .i64 day, .int .i64 days, .int .i64 rank, .int .i64 lot, .int .i64 line, .slice PA1 Pn1 Pc1, .slice OA1 On1 Oc1])).alloc (.cells #[.int .u8 kind, .int .i64 request, .string ⟨item.toArray⟩, .int .i64 qty, .int .i64 day, .int .i64 days, .int .i64 rank, .int .i64 lot, .int .i64 line, .slice PA2 Pn2 Pc2, .slice OA2 On2 Oc2] 29)).alloc (.cells #[.slice (some ⟨w11.heap.size, 0, none⟩) 1 1, .slice (some ⟨w11.heap.size + 1, 0, none⟩) 1 1] 37)
    have hB := (Blk.new_at (k := w11.heap.size + 1) (w11.alloc (.cells #[.int .u8 kind, .int .i64 request, .string ⟨item.toArray⟩, .int .i64 qty, .int .i64 day, .int .i64 days, .int .i64 rank, .int .i64 lot, .int .i64 line, .slice PA1 Pn1 Pc1, .slice OA1 On1 Oc1] 29)) 29 (#[.int .u8 kind, .int .i64 request, .string ⟨item.toArray⟩, .int .i64 qty, .int .i64 day, .int .i64 days, .int .i64 rank, .int .i64 lot, .int .i64 line, .slice PA2 Pn2 Pc2, .slice OA2 On2 Oc2]) (by simp)).alloc (.cells #[.slice (some ⟨w11.heap.size, 0, none⟩) 1 1, .slice (some ⟨w11.heap.size + 1, 0, none⟩) 1 1] 37)
    have hL := Blk.new_at (k := w11.heap.size + 1 + 1) ((w11.alloc (.cells #[.int .u8 kind, .int .i64 request, .string ⟨item.toArray⟩, .int .i64 qty, .int .i64 day, .int .i64 days, .int .i64 rank, .int .i64 lot, .int .i64 line, .slice PA1 Pn1 Pc1, .slice OA1 On1 Oc1] 29)).alloc (.cells #[.int .u8 kind, .int .i64 request, .string ⟨item.toArray⟩, .int .i64 qty, .int .i64 day, .int .i64 days, .int .i64 rank, .int .i64 lot, .int .i64 line, .slice PA2 Pn2 Pc2, .slice OA2 On2 Oc2] 29)) 37 #[.slice (some ⟨w11.heap.size, 0, none⟩) 1 1, .slice (some ⟨w11.heap.size + 1, 0, none⟩) 1 1] (by simp)
    have z1 := Lg.out
    have z2 := Z1.out
    have z3 := Z2.out
    have z4 := G1.out
    have z5 := T11.out.size
    have z6 := K1.out
    have z7 : b2 < w11.heap.size := B2.out.lt
    have z8 := Z3.out
    have hap := apartAsk_any (w11.heap.size + 1 + 1) w11.heap.size (w11.heap.size + 1) 2 w.heap.size w1.heap.size w3.heap.size ⟨kind, request, item, qty, day, days, rank, lot, line, parts, others⟩ ⟨kind, request, item, qty, day, days, rank, lot, line, parts, others⟩ ⟨⟨PA1, Pn1, Pc1⟩, ⟨OA1, On1, Oc1⟩⟩ ⟨⟨PA2, Pn2, Pc2⟩, ⟨OA2, On2, Oc2⟩⟩ _ hL hA hB (by omega) (O1.out.fresh tq) (O2.out.fresh tq) z6 few1 few2 (by omega) (by omega) (by omega) (by omega) (by have := tq.size; omega)
    refine hap.mono ?_
    clear hap hL hA hB z1 z2 z3 z4 z5 z6 z7 z8
    rintro e w12 ⟨rfl, t12⟩
    have T12 := Lib.hid ((T11.out.and_ tq).trans (W := fun _ => False) t12 (fun _ e => e) (fun i e => .inr e))
    clear t12 tq T11
    go_wp2_with fail
    refine (awake13_any _ (KS.out.fresh T12.out)).mono ?_
    rintro e w13 ⟨rfl, t13⟩
    have T13 := Lib.hid (T12.out.and_ t13)
    clear t13
    go_wp2_with fail
    go_ret
    exact ⟨rfl, T13.out⟩
end Go.Proofs.YtijmfglgeaaoaaaGreatDoor

