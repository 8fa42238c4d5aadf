/-
 lines.Step: the step that a line is. Conditions: the library's variables, ask.kinds and lines.verbs hold what their initialisers lay.
-/
import Derived.Test.YtglojnmcbochaaaGreatDoorURdS
import Derived.Test.YtglojnmcbochaaaGreatDoorURgI
namespace Go.Proofs.YtglojnmcbochaaaGreatDoor
open Go.RowKit Go.Maps Go.Shelf
set_option linter.unusedVariables false
set_option linter.unusedSimpArgs false

attribute [local go_sem] Oper.semAt_some

def lineRes (l : List UInt8) : StepV × Int := if 1048576 < l.length then (StepV.zero, 3) else match stepL l with
 | some x => (x, 0)
 | none => (StepV.zero, 310)
def LnPost (l : List UInt8) (w : World) (e : Ending) (w' : World) : Prop :=
 ∃ S Fs, e = .returned (.tuple #[.agg (stpC (lineRes l).1 S Fs), .int .i64 (lineRes l).2]) ∧ StpOwn w' w.heap.size (lineRes l).1 S Fs ∧ (lineRes l).1.Ok ∧ Turned (fun _ => False) w w'
theorem stp_zero_ok : StepV.zero.Ok := ⟨(show isByte (0 : Int) by unfold isByte; decide), I64_zero, I64_zero, AskV.Ok.zero, fun n h => (by cases h)⟩
theorem words_any (s : ByteArray) (w : World) : Calls Tryz.prog 25 #[.string s] w fun e w' => e = .returned (.func (.func 61) #[] #[.pointer (some ⟨w.heap.size, 0, none⟩)]) ∧ w' = w.alloc (.cells #[.string s] 9) := by
 go_enter Tryz.func25, Tryz.ntmps25
 go_wp2
 go_ret
 exact ⟨rfl, rfl⟩
set_option maxRecDepth 100000 in
set_option maxHeartbeats 8000000 in
theorem line_any (s : ByteArray) (w : World) (hv : VarsOk w) (hK : KindsOk w) (hV : VerbsOk w) (hs : s.size ≤ 9223372036854775807) : Calls Tryz.prog 9 #[.string s] w (LnPost s.data.toList w) := by
 have mixed : Tryz.prog.follows .mixedOrders = true := by kernel_rfl
 have hK' := hK
 have hV' := hV
 refine (callsIn_wide (n := 20)).1 ?_
 refine callsIn_of_wp_marks Tryz.func9 rfl trivial ?_ rfl
 simp only [Tryz.ntmps9, List.size_toArray, List.length_cons, List.length_nil, Nat.reduceAdd, Nat.reduceSub, Array.replicate_succ, Array.replicate_zero, List.push_toArray, List.append_toArray, zH, zG]
 by_cases hl : 1048576 < s.size
 ·have hli : (1048576 : Int) < (s.size : Int) := by omega
  have hres : lineRes s.data.toList = (StepV.zero, 3) := by
   unfold lineRes
   rw [if_pos (by rw [← Lib.size_eq]; exact hl)]
  have hres := hZ hres
  gi_wp2
  have tz := (Turned.refl (fun _ => False) w).alloc (.cells #[.int .u8 0, .int .i64 0, .int .i64 0, .int .u8 0, .int .i64 0, .string ⟨#[]⟩, .int .i64 0, .int .i64 0, .int .i64 0, .int .i64 0, .int .i64 0, .int .i64 0, .slice none 0 0, .slice none 0 0, .slice none 0 0] 31)
  obtain ⟨e0, e1, e2, e3, e4, e5, e6, e7, e8, e9, e10, e11, e12, e13, e14⟩ := (Blk.new w 31 #[.int .u8 0, .int .i64 0, .int .i64 0, .int .u8 0, .int .i64 0, .string ⟨#[]⟩, .int .i64 0, .int .i64 0, .int .i64 0, .int .i64 0, .int .i64 0, .int .i64 0, .slice none 0 0, .slice none 0 0, .slice none 0 0]).cells15
  refine ⟨.tuple #[.agg #[.int .u8 0, .int .i64 0, .int .i64 0, .int .u8 0, .int .i64 0, .string ⟨#[]⟩, .int .i64 0, .int .i64 0, .int .i64 0, .int .i64 0, .int .i64 0, .int .i64 0, .slice none 0 0, .slice none 0 0, .slice none 0 0], .int .i64 3], (by simp [results, Tryz.results9, go_sem, e0, e1, e2, e3, e4, e5, e6, e7, e8, e9, e10, e11, e12, e13, e14]), ?_⟩
  unfold LnPost
  rw [hres.out]
  exact ⟨AskS.nil, Sl.nil, rfl, StpOwn.nil _ _ _ rfl rfl rfl, stp_zero_ok, tz⟩
 ·have hli : ¬ (1048576 : Int) < (s.size : Int) := by omega
  have h1 : 1 ≤ 20 := by omega
  gi_wp2_with (refine ⟨trivial, ?_⟩; gi_at_call 25; refine (callsIn_wide.2 (words_any s _)).mono ?_; rintro e w' ⟨rfl, rfl⟩)
  obtain ⟨W0, hW0⟩ : ∃ W0, W0 = (((w.alloc (.cells #[.int .u8 0, .int .i64 0, .int .i64 0, .int .u8 0, .int .i64 0, .string ⟨#[]⟩, .int .i64 0, .int .i64 0, .int .i64 0, .int .i64 0, .int .i64 0, .int .i64 0, .slice none 0 0, .slice none 0 0, .slice none 0 0] 31)).alloc (.cells #[.slice none 0 0, .bool false] 69)).alloc (.cells #[.pointer (some ⟨w.heap.size + 1, 0, none⟩)] 67)).alloc (.cells #[.string s] 9) := ⟨_, rfl⟩
  have t0 : Turned (fun _ => False) w W0 := by rw [hW0]; exact ((((Turned.refl _ w).alloc _).alloc _).alloc _).alloc _
  have s0 : W0.heap.size = w.heap.size + 4 := by rw [hW0]; simp
  have x0 : Blk W0 w.heap.size 31 #[.int .u8 0, .int .i64 0, .int .i64 0, .int .u8 0, .int .i64 0, .string ⟨#[]⟩, .int .i64 0, .int .i64 0, .int .i64 0, .int .i64 0, .int .i64 0, .int .i64 0, .slice none 0 0, .slice none 0 0, .slice none 0 0] := by rw [hW0]; exact (((Blk.new w _ _).alloc _).alloc _).alloc _
  have x1 : Blk W0 (w.heap.size + 1) 69 #[.slice none 0 0, .bool false] := by rw [hW0]; exact ((Blk.new_at _ _ _ (by simp)).alloc _).alloc _
  have x2 : Blk W0 (w.heap.size + 2) 67 #[.pointer (some ⟨w.heap.size + 1, 0, none⟩)] := by rw [hW0]; exact (Blk.new_at _ _ _ (by simp)).alloc _
  have x3 : Blk W0 (w.heap.size + 3) 9 #[.string s] := by rw [hW0]; exact Blk.new_at _ _ _ (by simp)
  rw [← hW0]
  clear hW0
  obtain ⟨br, hbr⟩ : ∃ br, w.heap.size = br := ⟨_, rfl⟩
  rw [hbr] at s0 x0 x1 x2 x3 ⊢
  simp only [Nat.add_assoc, Nat.reduceAdd]
  have hg := words1_gives 19 (by omega) (br + 3) s W0 x3 hs
  refine wpIn_range_gives h1 (gf := 61) (lb := #[.pointer (some ⟨br + 3, 0, none⟩)]) rfl (enters_of Tryz.func61 (by kernel_rfl) rfl)
   hg (fun k hk => by omega)
   (fun B pre A => Blk A br 31 #[.int .u8 0, .int .i64 0, .int .i64 0, .int .u8 0, .int .i64 0, .string ⟨#[]⟩, .int .i64 0, .int .i64 0, .int .i64 0, .int .i64 0, .int .i64 0, .int .i64 0, .slice none 0 0, .slice none 0 0, .slice none 0 0] ∧ Blk A (br + 2) 67 #[.pointer (some ⟨br + 1, 0, none⟩)] ∧ (∃ A' c, Blk A (br + 1) 69 #[.slice A' pre.length c, .bool false] ∧ OwnE A 9 1 A' pre.length c (pre.map .string) ∧ ∀ i, A' = some ⟨i, 0, none⟩ → B ≤ i) ∧ Turned (fun _ => False) w A)
   ?rob ?start (fun x => { tmps := #[.string s, undef, .pointer (some ⟨br, 0, none⟩), .int .i64 0, .pointer (some ⟨br + 2, 0, none⟩), .string x, undef, .string s, .int .i64 s.size, .bool false, undef, .agg #[.slice none 0 0, .bool false], .pointer (some ⟨br + 1, 0, none⟩), .string s, .func (.func 61) #[] #[.pointer (some ⟨br + 3, 0, none⟩)], .string x, undef, undef, undef, undef, undef, undef, undef, undef, undef, undef, undef, undef, undef, undef, undef, undef, undef, undef, undef, undef, undef, undef, undef, undef, undef, undef], defers := [] }) ?assign ?body ?done
  case rob =>
   rintro B pre A A' hB ⟨h0, h2, ⟨Ar, c, h1, ho, hb⟩, ht⟩ hT
   have hn : ∀ k, k < br + 3 → ¬ OwnB (fun k => k = br + 3) W0.heap.size B k := fun k hk h => by
    rcases h with h | h <;> omega
   refine ⟨h0.turned hT (hn _ (by omega)), h2.turned hT (hn _ (by omega)), ⟨Ar, c, h1.turned hT (hn _ (by omega)), ho.turned hT (fun i e k => ?_), hb⟩, ht.trans hT (fun _ e => e) (fun i e => .inr (by rcases e with e | e <;> omega))⟩
   have := hb i e
   rcases k with k | k <;> omega
  case start =>
   intro B A hB hB2 hT
   have hn : ∀ k, k < br + 3 → ¬ k = br + 3 := fun k hk h => by omega
   exact ⟨x0.turned hT (hn _ (by omega)), x2.turned hT (hn _ (by omega)), ⟨none, 0, x1.turned hT (hn _ (by omega)), OwnE.nil _ _ _, fun i e => (by cases e)⟩, t0.trans hT (fun _ e => e) (fun i e => .inr (by omega))⟩
  case assign =>
   intro l2 x W2 K hK
   gi_wp2
   exact hK
  case body =>
   rintro l2 B pre x post W2 hB hBW ⟨h0, h2, ⟨Ar, c, h1, ho, hb⟩, ht⟩ hx
   have q2 : W2.cell? ⟨br + 2, 0, none⟩ = some (.pointer (some ⟨br + 1, 0, none⟩)) := h2.cell 0
   have q1 : W2.cell? ⟨br + 1, 0, none⟩ = some (.slice Ar pre.length c) := h1.cell 0
   have q3 := h1.frozen 0
   gi_wp2
   have hlen : pre.length + 1 ≤ 10000000 := by
    have := congrArg List.length hx
    rw [List.length_map, List.length_append, List.length_cons] at this
    have h2 := words_few s.data.toList
    rw [← Lib.size_eq] at h2
    omega
   have h0' := hZ h0
   have h1' := hZ h1
   have h2' := hZ h2
   have ho' := hZ ho
   have ht' := hZ ht
   clear h0 h1 h2 ho ht q1 q3
   refine wpIn_region_ts (fun W' => W'.cell? ⟨br + 2, 0, none⟩ = some (.pointer (some ⟨br + 1, 0, none⟩))) (tsT [0, 1, 2, 3, 5] (.two 4 6 (.run 6 (.run 7 (.take 8 (.take 9 (.run 10 .nil))))) (.run 4 (.run 7 (.take 8 (.take 9 (.run 10 .nil))))))) mixed (by kernel_rfl) (by kernel_rfl) (fun ⟨a, w, h⟩ => h) (fun _ _ _ _ _ h => h) ?_
   simp only [tsT, tsF, List.foldr_cons, List.foldr_nil, Ts.map, zI, zJ]
   obtain ⟨wd, hwd0⟩ : ∃ wd, wd = W2.drew := ⟨_, rfl⟩
   have hwd : Turned (fun _ => False) W2 wd := by rw [hwd0]; exact (Turned.refl _ _).drew
   rw [← hwd0]
   clear hwd0
   have h0' := hZ (h0'.out.turned hwd (fun e => e))
   have h1' := hZ (h1'.out.turned hwd (fun e => e))
   have h2' := hZ (h2'.out.turned hwd (fun e => e))
   have ho' := hZ (ho'.out.fresh hwd)
   have ht' := hZ (ht'.out.and_ hwd)
   have hBd : B ≤ wd.heap.size := Nat.le_trans hBW hwd.size
   have hwd := hZ hwd
   have hS : wd.cell? ⟨br + 2, 0, none⟩ = some (.pointer (some ⟨br + 1, 0, none⟩)) := h2'.out.cell 0
   clear q2
   iterate 5 (refine ts_take (v := ?_) hS rfl (fun w' hw => ?_) ?_; rotate_left; (focus (go_simp; (try with_reducible rfl); done)); try simp only [Act.put, zA, zB, zC])
   refine ts_two ?_ ?_
   ·refine now_run rfl (fun K hK => ?_)
    have x9 : wd.cell? ⟨br + 1, 0, none⟩ = some (.slice Ar pre.length c) := h1'.out.cell 0
    go_simp
    refine hK.out _ _ hS ?_
    clear hK K x9
    refine ts_run rfl (fun K hK => ?_)
    go_simp
    refine hK.out _ _ ((h2'.out.alloc _).cell 0) ?_
    clear hK K hS
    refine ts_run rfl (fun K hK => ?_)
    refine wp_appE textT (.tmp 20) (.tmp 22) rfl (show OwnE _ 9 1 Ar pre.length c (pre.map .string) from ho'.out.fresh ((Turned.refl (fun _ => False) wd).alloc (.cells #[.string x] 9))) ⟨wd.heap.size, 0, none⟩ 1 1 [.string x] rfl (news_new1 wd 9 _) (by simp [Value.oneCell']) (by omega) (by unfold maxLen; omega) (by omega) rfl rfl ?_
    intro A9 c9 W9 ho9 hor9
    have T9 := hZ hor9.turned
    have hS : W9.cell? ⟨br + 2, 0, none⟩ = some (.pointer (some ⟨br + 1, 0, none⟩)) := ((h2'.out.turned ((Turned.refl (fun _ => False) wd).alloc (.cells #[.string x] 9)) (fun e => e)).turned T9.out (fun e => (ho'.out.fresh ((Turned.refl (fun _ => False) wd).alloc (.cells #[.string x] 9))).blk (h2'.out.turned ((Turned.refl (fun _ => False) wd).alloc (.cells #[.string x] 9)) (fun e => e)) (by decide) e rfl)).cell 0
    have X9 := hZ ((h1'.out.turned ((Turned.refl (fun _ => False) wd).alloc (.cells #[.string x] 9)) (fun e => e)).turned T9.out (fun e => (ho'.out.fresh ((Turned.refl (fun _ => False) wd).alloc (.cells #[.string x] 9))).blk (h1'.out.turned ((Turned.refl (fun _ => False) wd).alloc (.cells #[.string x] 9)) (fun e => e)) (by decide) e rfl))
    have y9 : W9.cell? ⟨br + 1, 0, none⟩ = some (.slice Ar pre.length c) := X9.out.cell 0
    have yf := X9.out.frozen 0
    refine hK.out _ _ hS ?_
    clear hK K
    try simp only [Act.put, zA, zB, zC]
    iterate 2 (refine ts_take (v := ?_) hS rfl (fun w' hw => ?_) ?_; rotate_left; (focus (go_simp; (try with_reducible rfl); done)); try simp only [Act.put, zA, zB, zC])
    refine ts_run rfl (fun K hK => ?_)
    go_simp
    have tS := turned_one W9 (br + 1) 0 (.slice A9 (pre.length + 1) c9)
    have X10 := X9.out.set_ 0 (.slice A9 (pre.length + 1) c9)
    simp only [zA, zB] at X10
    have P9 := (h2'.out.turned ((Turned.refl (fun _ => False) wd).alloc (.cells #[.string x] 9)) (fun e => e)).turned T9.out (fun e => (ho'.out.fresh ((Turned.refl (fun _ => False) wd).alloc (.cells #[.string x] 9))).blk (h2'.out.turned ((Turned.refl (fun _ => False) wd).alloc (.cells #[.string x] 9)) (fun e => e)) (by decide) e rfl)
    have P10 := P9.turned tS (by omega)
    refine hK.out _ _ (P10.cell 0) ?_
    clear hK K
    refine ts_nil ?_
    have Z9 := (h0'.out.turned ((Turned.refl (fun _ => False) wd).alloc (.cells #[.string x] 9)) (fun e => e)).turned T9.out (fun e => (ho'.out.fresh ((Turned.refl (fun _ => False) wd).alloc (.cells #[.string x] 9))).blk (h0'.out.turned ((Turned.refl (fun _ => False) wd).alloc (.cells #[.string x] 9)) (fun e => e)) (by decide) e rfl)
    have o10 := ho9.turned tS (fun i e k => ho9.blk X9.out (by decide) e k)
    have hA : ∀ i, A9 = some ⟨i, 0, none⟩ → B ≤ i := fun i e => (hor9.at_ (Nat.le_trans hBd (by simp))).elim (fun h => hb i (by rw [← h.1]; exact e)) (fun ⟨g2, h1, h2⟩ => by rw [h1] at e; injection e with e; injection e with e; omega)
    refine ⟨?_, Z9.turned tS (by omega), P10, ⟨A9, c9, by rw [List.length_append]; exact X10, by rw [List.length_append, List.map_append]; exact o10, hA⟩, ?_⟩
    ·refine (hwd.out.trans (((Turned.refl (fun _ => False) wd).alloc (.cells #[.string x] 9)).trans T9.out (W := fun k => Ar = some ⟨k, 0, none⟩) (fun _ e => e.elim) (fun i e => .inl e)) (W := fun k => ¬ OwnB (fun k => k = br + 3) W0.heap.size B k) (fun _ e => e.elim) (fun i e => .inl ?_)).trans tS (fun _ e => e) (fun i e => .inl ?_)
     ·have := hb i e
      rintro (k | k) <;> omega
     ·rintro (k | k) <;> omega
    ·refine (ht'.out.trans (((Turned.refl (fun _ => False) wd).alloc (.cells #[.string x] 9)).trans T9.out (W := fun k => Ar = some ⟨k, 0, none⟩) (fun _ e => e.elim) (fun i e => .inl e)) (W := fun _ => False) (fun _ e => e) (fun i e => .inr ?_)).trans tS (fun _ e => e) (fun i e => .inr ?_)
     ·have := hb i e
      omega
     ·omega
   ·refine now_run rfl (fun K hK => ?_)
    go_simp
    refine hK.out _ _ ((h2'.out.alloc _).cell 0) ?_
    clear hK K
    refine ts_run rfl (fun K hK => ?_)
    have x9 : (wd.alloc (.cells #[.string x] 9)).cell? ⟨br + 1, 0, none⟩ = some (.slice Ar pre.length c) := (h1'.out.alloc _).cell 0
    go_simp
    refine hK.out _ _ ((h2'.out.alloc _).cell 0) ?_
    clear hK K x9 hS
    refine ts_run rfl (fun K hK => ?_)
    refine wp_appE textT (.tmp 20) (.tmp 22) rfl (show OwnE _ 9 1 Ar pre.length c (pre.map .string) from ho'.out.fresh ((Turned.refl (fun _ => False) wd).alloc (.cells #[.string x] 9))) ⟨wd.heap.size, 0, none⟩ 1 1 [.string x] rfl (news_new1 wd 9 _) (by simp [Value.oneCell']) (by omega) (by unfold maxLen; omega) (by omega) rfl rfl ?_
    intro A9 c9 W9 ho9 hor9
    have T9 := hZ hor9.turned
    have hS : W9.cell? ⟨br + 2, 0, none⟩ = some (.pointer (some ⟨br + 1, 0, none⟩)) := ((h2'.out.turned ((Turned.refl (fun _ => False) wd).alloc (.cells #[.string x] 9)) (fun e => e)).turned T9.out (fun e => (ho'.out.fresh ((Turned.refl (fun _ => False) wd).alloc (.cells #[.string x] 9))).blk (h2'.out.turned ((Turned.refl (fun _ => False) wd).alloc (.cells #[.string x] 9)) (fun e => e)) (by decide) e rfl)).cell 0
    have X9 := hZ ((h1'.out.turned ((Turned.refl (fun _ => False) wd).alloc (.cells #[.string x] 9)) (fun e => e)).turned T9.out (fun e => (ho'.out.fresh ((Turned.refl (fun _ => False) wd).alloc (.cells #[.string x] 9))).blk (h1'.out.turned ((Turned.refl (fun _ => False) wd).alloc (.cells #[.string x] 9)) (fun e => e)) (by decide) e rfl))
    have y9 : W9.cell? ⟨br + 1, 0, none⟩ = some (.slice Ar pre.length c) := X9.out.cell 0
    have yf := X9.out.frozen 0
    refine hK.out _ _ hS ?_
    clear hK K
    try simp only [Act.put, zA, zB, zC]
    iterate 2 (refine ts_take (v := ?_) hS rfl (fun w' hw => ?_) ?_; rotate_left; (focus (go_simp; (try with_reducible rfl); done)); try simp only [Act.put, zA, zB, zC])
    refine ts_run rfl (fun K hK => ?_)
    go_simp
    have tS := turned_one W9 (br + 1) 0 (.slice A9 (pre.length + 1) c9)
    have X10 := X9.out.set_ 0 (.slice A9 (pre.length + 1) c9)
    simp only [zA, zB] at X10
    have P9 := (h2'.out.turned ((Turned.refl (fun _ => False) wd).alloc (.cells #[.string x] 9)) (fun e => e)).turned T9.out (fun e => (ho'.out.fresh ((Turned.refl (fun _ => False) wd).alloc (.cells #[.string x] 9))).blk (h2'.out.turned ((Turned.refl (fun _ => False) wd).alloc (.cells #[.string x] 9)) (fun e => e)) (by decide) e rfl)
    have P10 := P9.turned tS (by omega)
    refine hK.out _ _ (P10.cell 0) ?_
    clear hK K
    refine ts_nil ?_
    have Z9 := (h0'.out.turned ((Turned.refl (fun _ => False) wd).alloc (.cells #[.string x] 9)) (fun e => e)).turned T9.out (fun e => (ho'.out.fresh ((Turned.refl (fun _ => False) wd).alloc (.cells #[.string x] 9))).blk (h0'.out.turned ((Turned.refl (fun _ => False) wd).alloc (.cells #[.string x] 9)) (fun e => e)) (by decide) e rfl)
    have o10 := ho9.turned tS (fun i e k => ho9.blk X9.out (by decide) e k)
    have hA : ∀ i, A9 = some ⟨i, 0, none⟩ → B ≤ i := fun i e => (hor9.at_ (Nat.le_trans hBd (by simp))).elim (fun h => hb i (by rw [← h.1]; exact e)) (fun ⟨g2, h1, h2⟩ => by rw [h1] at e; injection e with e; injection e with e; omega)
    refine ⟨?_, Z9.turned tS (by omega), P10, ⟨A9, c9, by rw [List.length_append]; exact X10, by rw [List.length_append, List.map_append]; exact o10, hA⟩, ?_⟩
    ·refine (hwd.out.trans (((Turned.refl (fun _ => False) wd).alloc (.cells #[.string x] 9)).trans T9.out (W := fun k => Ar = some ⟨k, 0, none⟩) (fun _ e => e.elim) (fun i e => .inl e)) (W := fun k => ¬ OwnB (fun k => k = br + 3) W0.heap.size B k) (fun _ e => e.elim) (fun i e => .inl ?_)).trans tS (fun _ e => e) (fun i e => .inl ?_)
     ·have := hb i e
      rintro (k | k) <;> omega
     ·rintro (k | k) <;> omega
    ·refine (ht'.out.trans (((Turned.refl (fun _ => False) wd).alloc (.cells #[.string x] 9)).trans T9.out (W := fun k => Ar = some ⟨k, 0, none⟩) (fun _ e => e.elim) (fun i e => .inl e)) (W := fun _ => False) (fun _ e => e) (fun i e => .inr ?_)).trans tS (fun _ e => e) (fun i e => .inr ?_)
     ·have := hb i e
      omega
     ·omega
  case done =>
   rintro B W2 hB hBW ⟨h0, h2, ⟨Ar, c, h1, ho, hb⟩, ht⟩ hK
   have hmap : ((wordsL s.data.toList).map ba).map Value.string = textC (wordsL s.data.toList) := by
    unfold textC strV ba
    rw [List.map_map]
    rfl
   rw [hmap, List.length_map] at ho
   rw [List.length_map] at h1
   have hfew := words_few s.data.toList
   rw [← Lib.size_eq] at hfew
   have hN : (wordsL s.data.toList).length ≤ 1000000 := by omega
   have R2 : RdB W2 W2.heap.size (br + 1) (wordsL s.data.toList) false := by
    refine ⟨⟨Ar, (wordsL s.data.toList).length, c⟩, h1, ho.slT, fun x hx => ?_, fun b o e => ?_, by have := h1.lt; exact this⟩
    ·have := (words_mem hx).2.1
     rw [← Lib.size_eq] at this
     unfold lenOk
     omega
    ·rcases ho.row_or with ⟨e3, _, _, _⟩ | ⟨g3, e3, r3⟩
     ·simp only at e; rw [e3] at e; cases e
     ·simp only at e
      rw [e3] at e
      injection e with e
      injection e with e _
      subst e
      exact ⟨fun e4 => ho.blk h1 (by decide) e3 e4, r3.lt⟩
   have B2 : BaseK w W2 (br + 1) := ⟨⟨hv, ht, by omega⟩, hK', hV'⟩
   have hS := rd_step_any w W2.heap.size (br + 1) (wordsL s.data.toList) false W2 R2 B2 (Nat.le_refl _) hN
   have q2 : W2.cell? ⟨br + 2, 0, none⟩ = some (.pointer (some ⟨br + 1, 0, none⟩)) := h2.cell 0
   have hres0 : lineRes s.data.toList = (match endP (stepP (wordsL s.data.toList) false) with
    | some x => (x, 0)
    | none => (StepV.zero, 310)) := by
    unfold lineRes
    rw [if_neg (by rw [← Lib.size_eq]; exact hl), stepP_of]
    rfl
   unfold StpPost at hS
   obtain ⟨sp, hsp⟩ : ∃ sp, stepP (wordsL s.data.toList) false = sp := ⟨_, rfl⟩
   rw [hsp] at hS hres0
   obtain ⟨⟨k0, k1, k2, ⟨xk, xr, xi, xq, xd, xl, xa, xt, xn, xp, xo⟩, k14⟩, rws, rb⟩ := sp
   clear hsp hmap ho h1 R2 B2
   rw [s0] at hK
   have h0' := hZ h0
   have h2' := hZ h2
   have hK6 := hZ hK
   have ht' := hZ ht
   have hres0' := hZ hres0
   clear h0 h2 hK ht hres0
   have hz2 := hBW
   gi_wp2
   refine ⟨trivial, ?_⟩
   refine (callsIn_wide.2 hS).mono ?_
   rintro e W3 ⟨⟨⟨PA, Pn, Pc⟩, ⟨QA, On, Oc⟩⟩, ⟨FA, Fn, Fc⟩, rfl, R3, O3, K3, t3⟩
   simp only [stpC, strV]
   have w4 := (Turned.refl (fun _ => False) W3).alloc (.cells #[.int .u8 k0, .int .i64 k1, .int .i64 k2, .int .u8 xk, .int .i64 xr, .string ⟨xi.toArray⟩, .int .i64 xq, .int .i64 xd, .int .i64 xl, .int .i64 xa, .int .i64 xt, .int .i64 xn, .slice PA Pn Pc, .slice QA On Oc, .slice FA Fn Fc] 31)
   have tw := t3.eq_ (turned_same w4)
   have hz3 := t3.size
   have h04 := h0'.out.turned tw (by omega)
   have h24 := h2'.out.turned tw (by omega)
   have hK4 := (tw.block _ (heap_lt hK6.out) (by omega)).trans hK6.out
   have ht4 := ht'.out.trans tw (W := fun _ => False) (fun _ e => e) (fun i e => .inr (by omega))
   have R4 := R3.fresh w4
   have O4 := O3.fresh w4
   have X4 := Blk.new W3 31 #[.int .u8 k0, .int .i64 k1, .int .i64 k2, .int .u8 xk, .int .i64 xr, .string ⟨xi.toArray⟩, .int .i64 xq, .int .i64 xd, .int .i64 xl, .int .i64 xa, .int .i64 xt, .int .i64 xn, .slice PA Pn Pc, .slice QA On Oc, .slice FA Fn Fc]
   have q2 : W3.cell? ⟨br + 2, 0, none⟩ = some (.pointer (some ⟨br + 1, 0, none⟩)) := (h2'.out.turned t3 (by omega)).cell 0
   have q24 := h24.cell 0
   simp only [List.getElem?_toArray, zI] at q24
   have qb := R4.cells.1
   obtain ⟨RA, Rc, qs⟩ := R4.slice
   have Y6 := hZ h04
   have X6 := hZ X4
   have hK6 := hZ hK4
   have T6 := hZ ht4
   have O6 := hZ O4
   have K3 := hZ K3
   have h24 := hZ h24
   obtain ⟨y0, y1, y2, y3, y4, y5, y6, y7, y8, y9, y10, y11, y12, y13, y14⟩ := Y6.out.cells15
   have yf := Y6.out.frozen
   obtain ⟨x0, x1, x2, x3, x4, x5, x6, x7, x8, x9, x10, x11, x12, x13, x14⟩ := X6.out.cells15
   clear w4 tw h04 hK4 ht4 R4 O4 X4 hS
   cases rb with
   | true =>
    have hres := hZ (show lineRes s.data.toList = (StepV.zero, 310) from hres0'.out)
    gi_wp2
    obtain ⟨wz, hwz, XZ, tZ⟩ := fin15 (.int .u8 0) (.int .i64 0) (.int .i64 0) (.int .u8 0) (.int .i64 0) (.string ⟨#[]⟩) (.int .i64 0) (.int .i64 0) (.int .i64 0) (.int .i64 0) (.int .i64 0) (.int .i64 0) (.slice none 0 0) (.slice none 0 0) (.slice none 0 0) Y6.out
    rw [hwz]
    clear hwz
    have hKz : wz.heap[(br + 4)]? = some (.deferred (some [])) := (tZ.block _ (heap_lt hK6.out) (by omega)).trans hK6.out
    refine ⟨by simp, .inl ⟨_, _, rfl, run_takeDeferred hKz, ?_⟩⟩
    have tP := turned_putObj wz (br + 4) (.deferred none) (T := fun k => k = (br + 4)) rfl
    obtain ⟨e0, e1, e2, e3, e4, e5, e6, e7, e8, e9, e10, e11, e12, e13, e14⟩ := (XZ.turned tP (by omega)).cells15
    refine ⟨.tuple #[.agg #[.int .u8 0, .int .i64 0, .int .i64 0, .int .u8 0, .int .i64 0, .string ⟨#[]⟩, .int .i64 0, .int .i64 0, .int .i64 0, .int .i64 0, .int .i64 0, .int .i64 0, .slice none 0 0, .slice none 0 0, .slice none 0 0], .int .i64 310], (by simp [results, Tryz.results9, go_sem, e0, e1, e2, e3, e4, e5, e6, e7, e8, e9, e10, e11, e12, e13, e14]), ?_⟩
    have TF : Turned (fun _ => False) w (wz.putObj (br + 4) (.deferred none)) := ((T6.out.trans tZ (W := fun _ => False) (fun _ e => e) (fun i e => .inr (by omega))).trans tP (fun _ e => e) (fun i e => .inr (by omega)))
    unfold LnPost
    rw [hres.out]
    exact ⟨AskS.nil, Sl.nil, rfl, StpOwn.nil _ _ _ rfl rfl rfl, stp_zero_ok, TF⟩
   | false =>
    cases rws with
    | cons u us =>
     have hres := hZ (show lineRes s.data.toList = (StepV.zero, 310) from hres0'.out)
     have hli2 : (0 : Int) < ((u :: us).length : Int) := by simp only [List.length_cons]; omega
     gi_wp2
     obtain ⟨wz, hwz, XZ, tZ⟩ := fin15 (.int .u8 0) (.int .i64 0) (.int .i64 0) (.int .u8 0) (.int .i64 0) (.string ⟨#[]⟩) (.int .i64 0) (.int .i64 0) (.int .i64 0) (.int .i64 0) (.int .i64 0) (.int .i64 0) (.slice none 0 0) (.slice none 0 0) (.slice none 0 0) Y6.out
     rw [hwz]
     clear hwz
     have hKz : wz.heap[(br + 4)]? = some (.deferred (some [])) := (tZ.block _ (heap_lt hK6.out) (by omega)).trans hK6.out
     refine ⟨by simp, .inl ⟨_, _, rfl, run_takeDeferred hKz, ?_⟩⟩
     have tP := turned_putObj wz (br + 4) (.deferred none) (T := fun k => k = (br + 4)) rfl
     obtain ⟨e0, e1, e2, e3, e4, e5, e6, e7, e8, e9, e10, e11, e12, e13, e14⟩ := (XZ.turned tP (by omega)).cells15
     refine ⟨.tuple #[.agg #[.int .u8 0, .int .i64 0, .int .i64 0, .int .u8 0, .int .i64 0, .string ⟨#[]⟩, .int .i64 0, .int .i64 0, .int .i64 0, .int .i64 0, .int .i64 0, .int .i64 0, .slice none 0 0, .slice none 0 0, .slice none 0 0], .int .i64 310], (by simp [results, Tryz.results9, go_sem, e0, e1, e2, e3, e4, e5, e6, e7, e8, e9, e10, e11, e12, e13, e14]), ?_⟩
     have TF : Turned (fun _ => False) w (wz.putObj (br + 4) (.deferred none)) := ((T6.out.trans tZ (W := fun _ => False) (fun _ e => e) (fun i e => .inr (by omega))).trans tP (fun _ e => e) (fun i e => .inr (by omega)))
     unfold LnPost
     rw [hres.out]
     exact ⟨AskS.nil, Sl.nil, rfl, StpOwn.nil _ _ _ rfl rfl rfl, stp_zero_ok, TF⟩
    | nil =>
     have hres := hZ (show lineRes s.data.toList = (⟨k0, k1, k2, ⟨xk, xr, xi, xq, xd, xl, xa, xt, xn, xp, xo⟩, k14⟩, 0) from hres0'.out)
     gi_wp2
     obtain ⟨wz, hwz, XZ, tZ⟩ := fin15 (.int .u8 k0) (.int .i64 k1) (.int .i64 k2) (.int .u8 xk) (.int .i64 xr) (.string ⟨xi.toArray⟩) (.int .i64 xq) (.int .i64 xd) (.int .i64 xl) (.int .i64 xa) (.int .i64 xt) (.int .i64 xn) (.slice PA Pn Pc) (.slice QA On Oc) (.slice FA Fn Fc) Y6.out
     rw [hwz]
     clear hwz
     have hKz : wz.heap[(br + 4)]? = some (.deferred (some [])) := (tZ.block _ (heap_lt hK6.out) (by omega)).trans hK6.out
     refine ⟨by simp, .inl ⟨_, _, rfl, run_takeDeferred hKz, ?_⟩⟩
     have tP := turned_putObj wz (br + 4) (.deferred none) (T := fun k => k = (br + 4)) rfl
     obtain ⟨e0, e1, e2, e3, e4, e5, e6, e7, e8, e9, e10, e11, e12, e13, e14⟩ := (XZ.turned tP (by omega)).cells15
     refine ⟨.tuple #[.agg #[.int .u8 k0, .int .i64 k1, .int .i64 k2, .int .u8 xk, .int .i64 xr, .string ⟨xi.toArray⟩, .int .i64 xq, .int .i64 xd, .int .i64 xl, .int .i64 xa, .int .i64 xt, .int .i64 xn, .slice PA Pn Pc, .slice QA On Oc, .slice FA Fn Fc], .int .i64 0], (by simp [results, Tryz.results9, go_sem, e0, e1, e2, e3, e4, e5, e6, e7, e8, e9, e10, e11, e12, e13, e14]), ?_⟩
     have TF : Turned (fun _ => False) w (wz.putObj (br + 4) (.deferred none)) := ((T6.out.trans tZ (W := fun _ => False) (fun _ e => e) (fun i e => .inr (by omega))).trans tP (fun _ e => e) (fun i e => .inr (by omega)))
     unfold LnPost
     rw [hres.out]
     have O7 := (O6.out.blk Y6.out tZ (fun i e => e))
     have O8 : StpOwn (wz.putObj (br + 4) (.deferred none)) w.heap.size ⟨k0, k1, k2, ⟨xk, xr, xi, xq, xd, xl, xa, xt, xn, xp, xo⟩, k14⟩ ⟨⟨PA, Pn, Pc⟩, ⟨QA, On, Oc⟩⟩ ⟨FA, Fn, Fc⟩ := by
      have hW2 : (br + 4) + 2 ≤ W2.heap.size := by omega
      have h9 := O7.low (W := fun k => k = (br + 4)) tP (fun i e => by omega)
      exact ⟨⟨h9.ask.parts, h9.ask.others, fun i e => (by have := h9.ask.pB i e; omega), fun i e => (by have := h9.ask.oB i e; omega)⟩, h9.fates, fun i e => (by have := h9.fB i e; omega)⟩
     exact ⟨⟨⟨PA, Pn, Pc⟩, ⟨QA, On, Oc⟩⟩, ⟨FA, Fn, Fc⟩, rfl, O8, K3.out, TF⟩
end Go.Proofs.YtglojnmcbochaaaGreatDoor

