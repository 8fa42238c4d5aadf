/-
  log.Open where the first sector holds a sheet of right records, and the next one noughts. Conditions: a disk that is up; the oldest place is 1; the sheet has from 1 to 495 bytes, and is of a time before.
-/
import Derived.Test.YtfheikmjjijdpaaDoorQLgJ
namespace Go.Proofs.YtfheikmjjijdpaaDoor
open Go.RowKit Go.Maps
set_option linter.unusedVariables false
set_option linter.unusedSimpArgs false

theorem shtL_eq (num t bef : Int) (body : List Int) : shtL num t bef body = be 8 num ++ (be 4 t ++ (be 2 bef ++ (be 2 (body.length : Int) ++ (body ++ List.replicate (496 - body.length) 0)))) := by
  unfold shtL
  simp only [List.append_assoc]
theorem shtL_0 (num t bef : Int) (body : List Int) : (shtL num t bef body).take 8 = be 8 num := by
  rw [shtL_eq, List.take_left' (be_length 8 num)]
theorem shtL_8 (num t bef : Int) (body : List Int) : ((shtL num t bef body).drop 8).take 4 = be 4 t := by
  rw [shtL_eq, List.drop_left' (be_length 8 num), List.take_left' (be_length 4 t)]
theorem shtL_12 (num t bef : Int) (body : List Int) : ((shtL num t bef body).drop 12).take 2 = be 2 bef := by
  rw [shtL_eq, ← List.append_assoc, List.drop_left' (by rw [List.length_append, be_length, be_length]), List.take_left' (be_length 2 bef)]
theorem shtL_14 (num t bef : Int) (body : List Int) : ((shtL num t bef body).drop 14).take 2 = be 2 (body.length : Int) := by
  rw [shtL_eq, ← List.append_assoc, ← List.append_assoc, List.drop_left' (by rw [List.length_append, List.length_append, be_length, be_length, be_length]), List.take_left' (be_length 2 _)]
theorem shtL_16 (num t bef : Int) (body : List Int) : ((shtL num t bef body).drop 16).take body.length = body := by
  rw [shtL_eq, ← List.append_assoc, ← List.append_assoc, ← List.append_assoc, List.drop_left' (by rw [List.length_append, List.length_append, List.length_append, be_length, be_length, be_length, be_length]), List.take_left' rfl]
theorem open_sheet {L d c5 g : Nat} {first count turn : Int} {w4 w5 : World} {A5 : Option Addr} {o : Obj} (BL : Blk w4 L 65 (logC d first count turn 1 none 0 0 none 0 0)) (o5 : OwnE w5 68 1 A5 (0 + 1) c5 ([] ++ [.pointer (some ⟨g, 0, none⟩)])) (a5 : App2 (w4.alloc o) w5 none A5 0 c5) :
    w5.cell? ⟨L, 5, none⟩ = some (.slice none 0 0) ∧ w5.frozen? ⟨L, 5, none⟩ = false ∧ ∃ S', A5 = some ⟨S', 0, none⟩ ∧ Blk (w5.setCell ⟨L, 5, none⟩ (.slice A5 (0 + 1) c5)) L 65 (logC d first count turn 1 (some ⟨S', 0, none⟩) 1 c5 none 0 0) ∧ RowE (w5.setCell ⟨L, 5, none⟩ (.slice A5 (0 + 1) c5)) 68 1 S' 1 c5 ([] ++ [.pointer (some ⟨g, 0, none⟩)]) ∧ w4.heap.size ≤ S' ∧ Turned (fun i => i = L) w4 (w5.setCell ⟨L, 5, none⟩ (.slice A5 (0 + 1) c5)) := by
  rcases a5 with ⟨_, _, e, _⟩ | ⟨rfl, t⟩
  · exact absurd rfl e
  have ta := (Turned.refl (fun _ => False) w4).alloc o
  have t4 : Turned (fun _ => False) w4 w5 := ta.trans t (fun _ e => e) (fun _ e => e.elim)
  have hL := BL.lt
  have hb := BL.turned t4 (fun e => e)
  have hset := hb.set_ 5 (.slice (some ⟨(w4.alloc o).heap.size, 0, none⟩) (0 + 1) c5)
  rw [logC_set5] at hset
  have ts := (Turned.refl (fun i => i = L) w5).setCell (p := ⟨L, 5, none⟩) (.inl rfl) (.slice (some ⟨(w4.alloc o).heap.size, 0, none⟩) (0 + 1) c5)
  have hsz := ta.size
  have t5 : Turned (fun i => i = L) w4 w5 := t4.mono (fun _ e => e.elim)
  exact ⟨hb.cell 5, hb.frozen 5, _, rfl, hset, o5.row.turned ts (fun e => by omega), hsz, t5.setCell (p := ⟨L, 5, none⟩) (.inl rfl) _⟩
theorem open_lsns {L d S k cS n c7 : Nat} {first count turn : Int} {w6 w7 : World} {A7 : Option Addr} {xs : List Value} (BL : Blk w6 L 65 (logC d first count turn 1 (some ⟨S, 0, none⟩) k cS none 0 0)) (o7 : OwnE w7 2 1 A7 (0 + n) c7 ([] ++ xs)) (a7 : App2 w6 w7 none A7 0 c7) (hn : 0 < n) :
    w7.cell? ⟨L, 6, none⟩ = some (.slice none 0 0) ∧ w7.frozen? ⟨L, 6, none⟩ = false ∧ ∃ al, A7 = some ⟨al, 0, none⟩ ∧ Blk (w7.setCell ⟨L, 6, none⟩ (.slice A7 (0 + n) c7)) L 65 (logC d first count turn 1 (some ⟨S, 0, none⟩) k cS (some ⟨al, 0, none⟩) n c7) ∧ OwnE (w7.setCell ⟨L, 6, none⟩ (.slice A7 (0 + n) c7)) 2 1 (some ⟨al, 0, none⟩) n c7 xs ∧ w6.heap.size ≤ al ∧ Turned (fun i => i = L) w6 (w7.setCell ⟨L, 6, none⟩ (.slice A7 (0 + n) c7)) := by
  rcases a7 with ⟨_, _, e, _⟩ | ⟨rfl, t⟩
  · exact absurd rfl e
  have hL := BL.lt
  have hb := BL.turned t (fun e => e)
  have hset := hb.set_ 6 (.slice (some ⟨w6.heap.size, 0, none⟩) (0 + n) c7)
  rw [logC_set6] at hset
  have ts := (Turned.refl (fun i => i = L) w7).setCell (p := ⟨L, 6, none⟩) (.inl rfl) (.slice (some ⟨w6.heap.size, 0, none⟩) (0 + n) c7)
  have t5 : Turned (fun i => i = L) w6 w7 := t.mono (fun _ e => e.elim)
  rw [List.nil_append] at o7
  have o8 := o7.turned ts (fun q e => by injection e with e; injection e with e; omega)
  refine ⟨hb.cell 6, hb.frozen 6, _, rfl, ?_, ?_, Nat.le_refl _, t5.setCell (p := ⟨L, 6, none⟩) (.inl rfl) _⟩
  · rw [Nat.zero_add] at hset ⊢; exact hset
  · rw [Nat.zero_add] at o8 ⊢; exact o8
/-- A log that has one sheet, as it was read. -/
def LgS.one (L d S g gb : Nat) (first count turn : Int) (cS al cl c : Nat) (t1 : Int) (Rs : List Rec) : LgS := ⟨L, d, S, g, gb, first, count, turn, 1, 0, cS, [], some ⟨al, 0, none⟩, cl, lsnsL 0 0 Rs, 0, t1, 0, ((putsL Rs).length : Int), ((putsL Rs).length : Int), putsL Rs, c, false⟩
def LOne (first count turn t1 : Int) (d : Nat) (Rs : List Rec) (w : World) (e : Ending) (w' : World) : Prop := ∃ L S g gb cS al cl c, e = .returned (.tuple #[.pointer (some ⟨L, 0, none⟩), .int .i64 0]) ∧ LogW w' w.heap.size (LgS.one L d S g gb first count turn cS al cl c t1 Rs) ∧ Turned (fun _ => False) w w'
/-- What stands behind the loop's first round. -/
def One1 (w w1 : World) (L d : Nat) (first count turn t1 : Int) (Rs : List Rec) (wr : World) : Prop := ∃ S g gb cS al cl c, LogO wr (LgS.one L d S g gb first count turn cS al cl c t1 Rs) ∧ w1.heap.size ≤ S ∧ w1.heap.size ≤ g ∧ w1.heap.size ≤ gb ∧ w1.heap.size ≤ al ∧ Turned (fun i => i = L) w1 wr
theorem i64s_one {l : List Int} : ∀ u ∈ i64s l, u.oneCell' = true := by
  intro u hu
  obtain ⟨z, _, rfl⟩ := List.mem_map.1 hu
  rfl
theorem LogO.fresh {w w' : World} {X : LgS} (h : LogO w X) (ht : Turned (fun _ => False) w w') : LogO w' X := ⟨h.blk.turned ht (fun e => e), h.shs.fresh ht, h.lsn.fresh ht, h.sht.turned ht (fun e => e) (fun e => e)⟩
theorem LogO.liftOne {w : World} {B L d S g gb cS al cl c : Nat} {first count turn t1 : Int} {Rs : List Rec} (h : LogO w (LgS.one L d S g gb first count turn cS al cl c t1 Rs)) (h1 : B ≤ L) (h2 : B ≤ S) (h3 : B ≤ g) (h4 : B ≤ gb) (h6 : B ≤ al) (h5 : 1 ≤ count ∧ count ≤ 10000) (h7 : (putsL Rs).length ≤ 496) (h8 : Rs.length ≤ 496) : LogW w B (LgS.one L d S g gb first count turn cS al cl c t1 Rs) :=
  ⟨h.blk, h.shs, rfl, h.lsn, h.sht, h1, h2, h3, h4, (fun a e => by injection e with e; injection e with e; rw [← e]; exact h6), h5, by show 0 < 10000; omega, ⟨by show (0 : Int) ≤ 0; omega, by show (0 : Int) ≤ _; omega⟩, h7, by show (lsnsL 0 0 Rs).length ≤ 10000000; rw [lsnsL_length]; omega⟩
/-- The first round's end. -/
theorem one_end {L d S g gb c4 c6 c7 al : Nat} {first count turn t1 : Int} {Rs : List Rec} {w w1 w5 w6 w7 : World} (BL : Blk w1 L 65 (logC d first count turn 1 none 0 0 none 0 0)) (U5 : Turned (fun _ => False) w1 w5) (SH : ShtIs w5 g gb c4 0 t1 0 ((putsL Rs).length : Int) (putsL Rs) ((putsL Rs).length : Int) false) (G4 : w1.heap.size ≤ g ∧ w1.heap.size ≤ gb)
    (B6 : Blk w6 L 65 (logC d first count turn 1 (some ⟨S, 0, none⟩) 1 c6 none 0 0)) (P6 : RowE w6 68 1 S 1 c6 ([] ++ [.pointer (some ⟨g, 0, none⟩)])) (Z6 : w5.heap.size ≤ S) (V6 : Turned (fun i => i = L) w5 w6)
    (B7 : Blk w7 L 65 (logC d first count turn 1 (some ⟨S, 0, none⟩) 1 c6 (some ⟨al, 0, none⟩) Rs.length c7)) (O8 : OwnE w7 2 1 (some ⟨al, 0, none⟩) Rs.length c7 (i64s (lsnsL 0 0 Rs))) (Z7 : w6.heap.size ≤ al) (V7 : Turned (fun i => i = L) w6 w7) : One1 w w1 L d first count turn t1 Rs w7 := by
  have hL := BL.lt
  have s5 := U5.size
  have s6 := V6.size
  have V := V6.trans V7 (fun _ e => e) (fun _ e => .inl e)
  refine ⟨S, g, gb, c6, al, c7, c4, ⟨?_, ?_, ?_, SH.turned V (fun e => by omega) (fun e => by omega)⟩, by omega, G4.1, G4.2, by omega, (U5.mono (fun _ e => e.elim)).trans V (fun _ e => e) (fun _ e => .inl e)⟩
  · show Blk _ L _ (logC d first count turn 1 (some ⟨S, 0, none⟩) (0 + 1) c6 (some ⟨al, 0, none⟩) (lsnsL 0 0 Rs).length c7)
    rw [lsnsL_length]; exact B7
  · exact P6.turned V7 (fun e => by omega)
  · show OwnE _ _ 1 _ (lsnsL 0 0 Rs).length c7 _
    rw [lsnsL_length]; exact O8
set_option maxRecDepth 100000 in
set_option maxHeartbeats 3000000 in
theorem lopen_one (d ms mo : Nat) (A : DA) (first count turn t1 : Int) (Rs : List Rec) (w : World) (h : IsDisk w d ms mo A) (hdn : A.down = false) (hf : 0 ≤ first) (hc : 4 ≤ count) (hfc : first + count ≤ A.n) (ht : t1 < turn ∧ turn < 2147483648) (ht1 : 1 ≤ t1) (hok : AllOk Rs) (hb1 : 0 < (putsL Rs).length) (hb2 : (putsL Rs).length < 496) (hz : A.lat first = shtL 0 t1 0 (putsL Rs)) (hz2 : A.lat (first + 1) = noughts) :
    Calls Tryd.prog 6 #[.pointer (some ⟨d, 0, none⟩), .int .i64 first, .int .i64 count, .int .i64 1, .int .i64 turn] w (LOne first count turn t1 d Rs w) := by
  have hRl : 0 < Rs.length := by
    rcases Rs with _ | ⟨R, rs⟩
    · simp [putsL] at hb1
    · simp
  have hRn : Rs.length ≤ 496 := by have := puts_ge hok; omega
  have hn1 := h.n1
  have hn2 := h.n2
  have hx0 := Lib.hid (show w.cell? ⟨d, 0, none⟩ = some (.int .i64 A.n) from h.blk.cell 0)
  have HR := Lib.hid (fun (w' : World) (t : Turned (fun _ => False) w w') => (by have q := read_ok d ms mo A first w' (h.fresh t) hdn hf (by omega); rw [hz] at q; exact q : Calls Tryd.prog 28 #[.pointer (some ⟨d, 0, none⟩), .int .i64 first] w' (ReadPost (shtL 0 t1 0 (putsL Rs)) w')))
  have HR2 := Lib.hid (fun (w' : World) (t : Turned (fun _ => False) w w') => (by have q := read_ok d ms mo A (first + 1) w' (h.fresh t) hdn (by omega) (by omega); rw [hz2] at q; exact q : Calls Tryd.prog 28 #[.pointer (some ⟨d, 0, none⟩), .int .i64 (first + 1)] w' (ReadPost noughts w')))
  clear h hz hz2 hdn
  have HOK := Lib.hid hok
  clear hok
  generalize A.n = N at *
  obtain ⟨ht0, ht2⟩ := ht
  have f1 : first ≤ N := by omega
  have f3 : (0 : Int) < N := by omega
  have f4 : (N == 0) = false := by simp; omega
  have fw : IntKind.i64.wrap (N - first) = N - first := IntWalk.i64_in _ (by omega)
  have f5 : ¬ count < 4 := by omega
  have f6 : ¬ first < 0 := by omega
  have f7 : ¬ N < first := by omega
  have f8 : ¬ N - first < count := by omega
  have f9 : ¬ turn < 1 := by omega
  have f10 : ¬ 2147483648 ≤ turn := by omega
  have f11 : (0 : Int) < count - 1 := by omega
  have f12 : (0 : Int) % count = 0 := Int.zero_emod _
  have f13 : (1 : Int) % count = 1 := Int.emod_eq_of_lt (by omega) (by omega)
  have f14 : (1 : Int) < count - 1 := by omega
  go_enter Tryd.func6, Tryd.ntmps6
  go_wp2_with fail
  refine (sectors_any d N w hx0.out).mono ?_
  rintro e w1 ⟨rfl, rfl⟩
  go_wp2_with fail
  have BL := Lib.hid (show Blk (w.alloc (.cells #[.pointer (some ⟨d, 0, none⟩), .int .i64 first, .int .i64 count, .int .i64 turn, .int .i64 1, .slice none 0 0, .slice none 0 0] 65)) w.heap.size 65 (logC d first count turn 1 none 0 0 none 0 0) from Blk.new _ _ _)
  have T1 := Lib.hid ((Turned.refl (fun _ => False) w).alloc (.cells #[.pointer (some ⟨d, 0, none⟩), .int .i64 first, .int .i64 count, .int .i64 turn, .int .i64 1, .slice none 0 0, .slice none 0 0] 65))
  generalize w.alloc (.cells #[.pointer (some ⟨d, 0, none⟩), .int .i64 first, .int .i64 count, .int .i64 turn, .int .i64 1, .slice none 0 0, .slice none 0 0] 65) = w1 at *
  obtain ⟨L, hL⟩ : ∃ L, L = w.heap.size := ⟨_, rfl⟩
  rw [← hL] at BL ⊢
  have HLe := Lib.hid hL
  clear hL
  go_loopw [15, 16, 17, 18, 19, 20, 21, 22] (fun v15 _ _ _ _ _ _ _ wr => (v15 = .int .i64 0 ∧ wr = w1) ∨ (v15 = .int .i64 1 ∧ One1 w w1 L d first count turn t1 Rs wr)) (fun v15 _ _ _ _ _ _ _ _ => 2 - (intOf v15).toNat)
  case atStart => exact .inl ⟨rfl, rfl⟩
  case round =>
    rcases hrel with ⟨rfl, rfl⟩ | ⟨rfl, ho⟩
    · have x5 : wr.cell? ⟨L, 5, none⟩ = some (.slice none 0 0) := BL.out.cell 5
      go_wp2_with fail
      refine (lsector_any L first count 0 wr (BL.out.cell 1) (BL.out.cell 2) ⟨hf, by omega⟩ ⟨by omega, by omega⟩ ⟨by omega, by omega⟩).mono ?_
      rw [f12, Int.add_zero]
      rintro e w2 ⟨rfl, t2⟩
      have T2 := Lib.hid (T1.out.and_ t2)
      have U2 := Lib.hid t2
      clear t2 x5
      go_wp2_with fail
      refine (HR.out _ T2.out).mono ?_
      rintro e w3 ⟨gr, cr, rfl, rr, _, t3⟩
      have T3 := Lib.hid (T2.out.and_ t3)
      have U3 := Lib.hid (U2.out.and_ t3)
      have RR := Lib.hid rr
      clear t3 rr T2 U2
      go_wp2_with fail
      refine (lread_yes gr cr 0 t1 0 turn (putsL Rs).length (shtL 0 t1 0 (putsL Rs)) w3 RR.out (shtL_byte HOK.out.bytes) (by rw [shtL_0, decN_be 8 0 (by omega) (by decide) (by decide)]) (by rw [shtL_8, decN_be 4 t1 (by omega) (by rw [show (2 : Int) ^ (8 * 4) = 4294967296 from by decide]; omega) (by omega)]) (by rw [shtL_12, decN_be 2 0 (by omega) (by decide) (by decide)]) (by rw [shtL_14, decN_be 2 _ (by omega) (by rw [show (2 : Int) ^ (8 * 2) = 65536 from by decide]; omega) (by omega)]) ht1 ht0 (by omega) hb1 (by omega)).mono ?_
      rintro e w4 ⟨g, gb, c4, rfl, hsh, hg, hgb, hgg, t4⟩
      rw [shtL_16] at hsh
      have SH := Lib.hid hsh
      have T4 := Lib.hid (T3.out.and_ t4)
      have U4 := Lib.hid (U3.out.and_ t4)
      have s3 := U3.out.size
      have G4 := Lib.hid (And.intro (Nat.le_trans s3 hg) (Nat.le_trans s3 hgb))
      clear t4 RR T3 U3 hsh hg hgb s3
      have x5 : w4.cell? ⟨L, 5, none⟩ = some (.slice none 0 0) := (BL.out.turned U4.out (fun e => e)).cell 5
      go_wp2_with fail
      refine (lrecords_any g gb c4 0 t1 0 ((putsL Rs).length : Int) ((putsL Rs).length : Int) (putsL Rs) [] false Rs w4 SH.out (by simp) HOK.out ⟨by omega, by omega⟩ (by omega)).mono ?_
      rintro e w5 ⟨Ar, c5, rfl, o5, g5, t5⟩
      obtain ⟨ar, rfl, r5⟩ := o5.some_ hRl
      have R5 := Lib.hid r5
      have T5 := Lib.hid (T4.out.and_ t5)
      have U5 := Lib.hid (U4.out.and_ t5)
      have SH := Lib.hid (SH.out.turned t5 (fun e => e) (fun e => e))
      clear t5 T4 U4 o5 g5 r5 x5
      have BL5 := Lib.hid (BL.out.turned U5.out (fun e => e))
      have x5 : w5.cell? ⟨L, 5, none⟩ = some (.slice none 0 0) := BL5.out.cell 5
      have harL : ¬ ar = L := fun e => by
        obtain ⟨cx, bx, _⟩ := R5.out.row
        rw [e] at bx
        exact absurd (Blk.inj BL5.out bx).2 (by decide)
      have har5 := Lib.hid R5.out.lt
      go_wp2_with (first | (at_builtin; go_loud (refine wpList_appE ptrT rfl (.tmp 166) (.tmp 168) rfl (OwnE.nil _ _ _) ⟨w5.heap.size, 0, none⟩ 1 1 [.pointer (some ⟨g, 0, none⟩)] rfl (new1_news w5 68 _) (by simp [Value.oneCell']) (by omega) (by unfold maxLen; omega) (by omega) rfl rfl ?_; intro A6 c6 w6 o6 a6; have hst := open_sheet BL5.out o6 a6; obtain ⟨y5, yf, S', e6, b6, r6, s6, t6⟩ := hst; subst e6; have x6 : (w6.setCell ⟨L, 5, none⟩ (.slice (some ⟨S', 0, none⟩) 1 c6)).cell? ⟨L, 6, none⟩ = some (.slice none 0 0) := b6.cell 6; have R6 := Lib.hid (RowE.turned R5.out t6 harL); have B6 := Lib.hid b6; have P6 := Lib.hid r6; have Z6 := Lib.hid s6; have V6 := Lib.hid t6; clear b6 r6 s6 t6 o6 a6)) | (at_builtin; go_loud (refine wpList_appE i64T rfl (.tmp 176) (.tmp 177) rfl (OwnE.nil _ _ _) ⟨ar, 0, none⟩ Rs.length c5 (i64s (lsnsL 0 0 Rs)) (by unfold i64s; rw [List.length_map, lsnsL_length, Nat.mul_one]) (R6.out.celR.news ⟨ar, 0, none⟩ rfl) i64s_one hRl (by unfold maxLen; omega) (by omega) rfl rfl ?_; intro A7 c7 w7 o7 a7; have hst := open_lsns B6.out o7 a7 hRl; obtain ⟨y6, yg, al, e7, b7, o8, s7, t7⟩ := hst; subst e7; have B7 := Lib.hid b7; have O8 := Lib.hid o8; have Z7 := Lib.hid s7; have V7 := Lib.hid t7; clear b7 o8 s7 t7 o7 a7)))
      have hone0 := one_end (w := w) BL.out U5.out SH.out G4.out B6.out P6.out Z6.out V6.out B7.out O8.out Z7.out V7.out
      rw [Nat.zero_add Rs.length] at hone0
      have hone := Lib.hid hone0
      clear hone0
      go_roundw
      case rel =>
        first
        | exact .inr ⟨rfl, hone.out⟩
        | ((repeat apply Exists.intro); exact ⟨.inr ⟨rfl, hone.out⟩, rfl⟩)
      case measure => simp [intOf]
    · obtain ⟨S, g, gb, cS, al, cl, c, lo, z1, z2, z3, z4, tt⟩ := ho
      have LO := Lib.hid lo
      have TT := Lib.hid (T1.out.trans (W := fun _ => False) tt (fun _ e => e) (fun k e => .inr (by have := HLe.out; omega)))
      have s1 := T1.out.size
      have ZZ := Lib.hid (And.intro (Nat.le_trans s1 z1) (And.intro (Nat.le_trans s1 z2) (And.intro (Nat.le_trans s1 z3) (Nat.le_trans s1 z4))))
      clear lo tt z1 z2 z3 z4 s1
      have x5 : wr.cell? ⟨L, 5, none⟩ = some (.slice (some ⟨S, 0, none⟩) 1 cS) := LO.out.blk.cell 5
      go_wp2_with fail
      refine (lsector_any L first count 1 wr (LO.out.blk.cell 1) (LO.out.blk.cell 2) ⟨hf, by omega⟩ ⟨by omega, by omega⟩ ⟨by omega, by omega⟩).mono ?_
      rw [f13]
      rintro e w2 ⟨rfl, t2⟩
      have T2 := Lib.hid (TT.out.and_ t2)
      have LO := Lib.hid (LO.out.fresh t2)
      clear t2 x5
      go_wp2_with fail
      refine (HR2.out _ T2.out).mono ?_
      rintro e w3 ⟨gr, cr, rfl, rr, _, t3⟩
      have T3 := Lib.hid (T2.out.and_ t3)
      have LO := Lib.hid (LO.out.fresh t3)
      have RR := Lib.hid rr
      clear t3 rr
      go_wp2_with fail
      refine (lread_no gr cr 1 turn noughts w3 RR.out sec_noughts.byte (.inr noughts_dec)).mono ?_
      rintro e w4 ⟨rfl, t4⟩
      have T4 := Lib.hid (T3.out.and_ t4)
      have LO := Lib.hid (LO.out.fresh t4)
      clear t4 RR
      have x5 : w4.cell? ⟨L, 5, none⟩ = some (.slice (some ⟨S, 0, none⟩) 1 cS) := LO.out.blk.cell 5
      go_wp2_with fail
      go_ret2
      exact ⟨L, S, g, gb, cS, al, cl, c, rfl, LO.out.liftOne (by have := HLe.out; omega) ZZ.out.1 ZZ.out.2.1 ZZ.out.2.2.1 ZZ.out.2.2.2 ⟨by omega, by omega⟩ (by omega) hRn, T4.out⟩
end Go.Proofs.YtfheikmjjijdpaaDoor

