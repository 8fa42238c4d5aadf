/-
  log.Open where a log's sheets stand on the disk: they are found, one behind the other, up to the first that is none of them. Conditions: a disk that is up; the sheets are of a time before; the oldest record stands on the first.
-/
import Derived.Test.YtfheikmjjijdpaaDoorQLhG
import Derived.Test.YtfheikmjjijdpaaDoorQKpP
namespace Go.Proofs.YtfheikmjjijdpaaDoor
open Go.RowKit Go.Maps Go.Proofs
set_option linter.unusedVariables false
set_option linter.unusedSimpArgs false

def Sc.bytes (s : Sc) : List Int := shtL s.num s.tn s.bef (putsL s.Rs)
def scB : Option Sc → List Int
  | none => noughts
  | some s => s.bytes
def ShM.dsc (m : ShM) : Int × Int × Int × Int × List Int × Int × Bool := (m.num, m.tn, m.bef, m.used, m.body, m.safe, m.lost)
def Sc.dsc (s : Sc) : Int × Int × Int × Int × List Int × Int × Bool := (s.num, s.tn, s.bef, (s.len : Int), putsL s.Rs, (s.len : Int), false)
def lsAll (ss : List Sc) : List Int := ss.flatMap fun s => lsnsL s.num 0 s.Rs
theorem lsAll_snoc (ss : List Sc) (s : Sc) : lsAll (ss ++ [s]) = lsAll ss ++ lsnsL s.num 0 s.Rs := by simp [lsAll]
/-- What stands while Open goes on. -/
structure OpS (w1 wr : World) (L d : Nat) (first count turn oldest : Int) (As : Option Addr) (cS : Nat) (Al : Option Addr) (cl : Nat) (ls : List Int) (shs : List ShM) : Prop where
  blk : Blk wr L 65 (logC d first count turn oldest As shs.length cS Al ls.length cl)
  row : OwnE wr 68 1 As shs.length cS (shs.map ShM.ptr)
  lsn : OwnE wr 2 1 Al ls.length cl (i64s ls)
  sht : ∀ s ∈ shs, s.Is wr
  gs : (shs.map ShM.g).Nodup
  gbs : (shs.map ShM.gb).Nodup
  nS : ∀ a, As = some ⟨a, 0, none⟩ → w1.heap.size ≤ a
  nl : ∀ a, Al = some ⟨a, 0, none⟩ → w1.heap.size ≤ a
  ns : ∀ s ∈ shs, w1.heap.size ≤ s.g ∧ w1.heap.size ≤ s.gb
  turned : Turned (fun q => q = L) w1 wr
section
variable {w1 wr w' : World} {L d : Nat} {first count turn oldest : Int} {As : Option Addr} {cS : Nat} {Al : Option Addr} {cl : Nat} {ls : List Int} {shs : List ShM}
theorem OpS.fresh (h : OpS w1 wr L d first count turn oldest As cS Al cl ls shs) (ht : Turned (fun _ => False) wr w') : OpS w1 w' L d first count turn oldest As cS Al cl ls shs :=
  ⟨h.blk.turned ht (fun e => e), h.row.fresh ht, h.lsn.fresh ht, fun s hs => (h.sht s hs).turned ht (fun e => e) (fun e => e), h.gs, h.gbs, h.nS, h.nl, h.ns, h.turned.trans ht (fun _ e => e) (fun _ e => e.elim)⟩
theorem OpS.addS {m : ShM} {w6 : World} {A6 : Option Addr} {c6 : Nat} {o : Obj} (h : OpS w1 wr L d first count turn oldest As cS Al cl ls shs) (hm : m.Is wr) (hn : w1.heap.size ≤ m.g ∧ w1.heap.size ≤ m.gb) (hd : ∀ s ∈ shs, s.g ≠ m.g ∧ s.gb ≠ m.gb) (o6 : OwnE w6 68 1 A6 (shs.length + 1) c6 (shs.map ShM.ptr ++ [m.ptr])) (a6 : App2 (wr.alloc o) w6 As A6 cS c6) :
    w6.cell? ⟨L, 5, none⟩ = some (.slice As shs.length cS) ∧ w6.frozen? ⟨L, 5, none⟩ = false ∧ OpS w1 (w6.setCell ⟨L, 5, none⟩ (.slice A6 (shs.length + 1) c6)) L d first count turn oldest A6 c6 Al cl ls (shs ++ [m]) := by
  have hw1 := h.turned.size
  have ta := (Turned.refl (fun _ => False) wr).alloc o
  have h4 := h.fresh ta
  have hm4 : m.Is (wr.alloc o) := hm.turned ta (fun e => e) (fun e => e)
  have t := a6.turned
  have hbL := h4.blk
  have hr := h4.row
  have hL : ¬ (As = some ⟨L, 0, none⟩) := fun e => OwnE.blk hr hbL (by decide) e rfl
  have hAl : ∀ q, Al = some ⟨q, 0, none⟩ → ¬ (As = some ⟨q, 0, none⟩) := fun q e e2 => by
    have hl := h4.lsn
    rw [e] at hl
    obtain ⟨cl2, hb2, _⟩ := hl.row.row
    exact OwnE.blk hr hb2 (by decide) e2 rfl
  have hS : ∀ s : ShM, s.Is (wr.alloc o) → ¬ (As = some ⟨s.g, 0, none⟩) ∧ ¬ (As = some ⟨s.gb, 0, none⟩) := fun s hs => by
    obtain ⟨cb, hb, _⟩ := hs.bod.row
    exact ⟨fun e => OwnE.blk hr hs.blk (by decide) e rfl, fun e => OwnE.blk hr hb (by decide) e rfl⟩
  have hb := hbL.turned t hL
  have hset := hb.set_ 5 (.slice A6 (shs.length + 1) c6)
  rw [logC_set5] at hset
  have ts := (Turned.refl (fun i => i = L) w6).setCell (p := ⟨L, 5, none⟩) (.inl rfl) (.slice A6 (shs.length + 1) c6)
  have hsL : ∀ s : ShM, s.Is (wr.alloc o) → s.g ≠ L ∧ s.gb ≠ L := fun s hs => by
    obtain ⟨cb, hb, _⟩ := hs.bod.row
    exact ⟨fun e => by have b := hs.blk; rw [e] at b; exact absurd (Blk.inj b hbL).2 (by decide), fun e => by rw [e] at hb; exact absurd (Blk.inj hb hbL).2 (by decide)⟩
  have hI : ∀ s : ShM, s.Is (wr.alloc o) → s.Is (w6.setCell ⟨L, 5, none⟩ (.slice A6 (shs.length + 1) c6)) := fun s hs => (hs.turned t (hS s hs).1 (hS s hs).2).turned ts (hsL s hs).1 (hsL s hs).2
  have hA6 : ∀ q, A6 = some ⟨q, 0, none⟩ → w1.heap.size ≤ q ∧ q ≠ L := fun q e => by
    rcases a6 with ⟨e2, _, _, _⟩ | ⟨e2, _⟩
    · rw [e2] at e; exact ⟨h.nS q e, fun e3 => hL (by rw [← e3]; exact e)⟩
    · rw [e2] at e
      injection e with e; injection e with e
      have h1 := ta.size
      have h2 := hbL.lt
      exact ⟨by omega, by omega⟩
  have hmem : ∀ s ∈ shs ++ [m], s ∈ shs ∨ s = m := fun s hs => by
    rcases List.mem_append.1 hs with hs | hs
    · exact .inl hs
    · exact .inr (List.mem_singleton.1 hs)
  refine ⟨hb.cell 5, hb.frozen 5, ⟨?_, ?_, ?_, fun s hs => ?_, ?_, ?_, fun q e => (hA6 q e).1, h.nl, fun s hs => ?_, ?_⟩⟩
  · rw [List.length_append]; exact hset
  · rw [List.length_append, List.map_append]; exact o6.turned ts (fun q e => (hA6 q e).2)
  · exact (h4.lsn.turned t hAl).turned ts (fun q e e2 => OwnE.blk h4.lsn hbL (by decide) e e2)
  · rcases hmem s hs with hs | rfl
    · exact hI s (h4.sht s hs)
    · exact hI s hm4
  · rw [List.map_append, List.nodup_append]
    refine ⟨h.gs, by simp, fun a ha b hb2 e => ?_⟩
    obtain ⟨s, hs, rfl⟩ := List.mem_map.1 ha
    simp at hb2
    exact (hd s hs).1 (e.trans hb2)
  · rw [List.map_append, List.nodup_append]
    refine ⟨h.gbs, by simp, fun a ha b hb2 e => ?_⟩
    obtain ⟨s, hs, rfl⟩ := List.mem_map.1 ha
    simp at hb2
    exact (hd s hs).2 (e.trans hb2)
  · rcases hmem s hs with hs | rfl
    · exact h.ns s hs
    · exact hn
  · have t1 : Turned (fun q => q = L) w1 w6 := h4.turned.trans t (fun _ e => e) (fun q e => .inr (h.nS q e))
    exact t1.setCell (p := ⟨L, 5, none⟩) (.inl rfl) _
theorem OpS.addL {zs : List Int} {w7 : World} {A7 : Option Addr} {c7 : Nat} (h : OpS w1 wr L d first count turn oldest As cS Al cl ls shs) (o7 : OwnE w7 2 1 A7 (ls.length + zs.length) c7 (i64s ls ++ i64s zs)) (a7 : App2 wr w7 Al A7 cl c7) :
    w7.cell? ⟨L, 6, none⟩ = some (.slice Al ls.length cl) ∧ w7.frozen? ⟨L, 6, none⟩ = false ∧ OpS w1 (w7.setCell ⟨L, 6, none⟩ (.slice A7 (ls.length + zs.length) c7)) L d first count turn oldest As cS A7 c7 (ls ++ zs) shs := by
  have hw1 := h.turned.size
  have t := a7.turned
  have hbL := h.blk
  have hr := h.lsn
  have hL : ¬ (Al = some ⟨L, 0, none⟩) := fun e => OwnE.blk hr hbL (by decide) e rfl
  have hAs : ∀ q, As = some ⟨q, 0, none⟩ → ¬ (Al = some ⟨q, 0, none⟩) := fun q e e2 => by
    have hl := h.row
    rw [e] at hl
    obtain ⟨cl2, hb2, _⟩ := hl.row.row
    exact OwnE.blk hr hb2 (by decide) e2 rfl
  have hS : ∀ s : ShM, s.Is wr → ¬ (Al = some ⟨s.g, 0, none⟩) ∧ ¬ (Al = some ⟨s.gb, 0, none⟩) := fun s hs => by
    obtain ⟨cb, hb, _⟩ := hs.bod.row
    exact ⟨fun e => OwnE.blk hr hs.blk (by decide) e rfl, fun e => OwnE.blk hr hb (by decide) e rfl⟩
  have hb := hbL.turned t hL
  have hset := hb.set_ 6 (.slice A7 (ls.length + zs.length) c7)
  rw [logC_set6] at hset
  have ts := (Turned.refl (fun i => i = L) w7).setCell (p := ⟨L, 6, none⟩) (.inl rfl) (.slice A7 (ls.length + zs.length) c7)
  have hsL : ∀ s : ShM, s.Is wr → s.g ≠ L ∧ s.gb ≠ L := fun s hs => by
    obtain ⟨cb, hb, _⟩ := hs.bod.row
    exact ⟨fun e => by have b := hs.blk; rw [e] at b; exact absurd (Blk.inj b hbL).2 (by decide), fun e => by rw [e] at hb; exact absurd (Blk.inj hb hbL).2 (by decide)⟩
  have hA7 : ∀ q, A7 = some ⟨q, 0, none⟩ → w1.heap.size ≤ q ∧ q ≠ L := fun q e => by
    rcases a7 with ⟨e2, _, _, _⟩ | ⟨e2, _⟩
    · rw [e2] at e; exact ⟨h.nl q e, fun e3 => hL (by rw [← e3]; exact e)⟩
    · rw [e2] at e
      injection e with e; injection e with e
      have h2 := hbL.lt
      exact ⟨by omega, by omega⟩
  refine ⟨hb.cell 6, hb.frozen 6, ⟨?_, ?_, ?_, fun s hs => ?_, h.gs, h.gbs, h.nS, fun q e => (hA7 q e).1, h.ns, ?_⟩⟩
  · rw [List.length_append]; exact hset
  · exact (h.row.turned t hAs).turned ts (fun q e e2 => OwnE.blk h.row hbL (by decide) e e2)
  · rw [List.length_append, i64s_app]; exact o7.turned ts (fun q e => (hA7 q e).2)
  · exact ((h.sht s hs).turned t (hS s (h.sht s hs)).1 (hS s (h.sht s hs)).2).turned ts (hsL s (h.sht s hs)).1 (hsL s (h.sht s hs)).2
  · have t1 : Turned (fun q => q = L) w1 w7 := h.turned.trans t (fun _ e => e) (fun q e => .inr (h.nl q e))
    exact t1.setCell (p := ⟨L, 6, none⟩) (.inl rfl) _
/-- The log that Open hands out. -/
theorem OpS.log {S : Nat} (h : OpS w1 wr L d first count turn oldest (some ⟨S, 0, none⟩) cS Al cl ls shs) (hc : 1 ≤ count ∧ count ≤ 10000) (hk : shs.length ≤ 10000) (hn : ∀ s ∈ shs, 0 ≤ s.num ∧ s.num ≤ 9007199254740000) (hb : ∀ s ∈ shs, s.body.length ≤ 496) (hl : ls.length ≤ 10000000) : LogM wr ⟨L, d, first, count, turn, oldest, S, 0, cS, Al, cl, ls, shs⟩ :=
  ⟨h.blk, RowO.of_row h.row.row, OwnO.of_own h.lsn, h.sht, h.gs, h.gbs, hc, hk, hn, hb, hl⟩
end
structure OpX (d : Nat) (first count turn oldest : Int) (cut : Nat) (ss : List Sc) (X : LgM) : Prop where
  d : X.d = d
  first : X.first = first
  count : X.count = count
  turn : X.turn = turn
  oldest : X.oldest = oldest
  ls : X.ls = (lsAll ss).drop cut
  shs : X.shs.map ShM.dsc = ss.map Sc.dsc
def HOpen (d : Nat) (first count turn oldest : Int) (cut : Nat) (ss : List Sc) (w : World) (e : Ending) (w' : World) : Prop := ∃ X : LgM, e = .returned (.tuple #[.pointer (some ⟨X.L, 0, none⟩), .int .i64 0]) ∧ OpX d first count turn oldest cut ss X ∧ LogM w' X ∧ (∀ i, X.own i → w.heap.size ≤ i) ∧ Turned (fun _ => False) w w'
def OpRel (w1 : World) (L d : Nat) (first count turn oldest : Int) (cut : Nat) (ss : List Sc) (j : Nat) (wr : World) : Prop := ∃ (As : Option Addr) (cS : Nat) (Al : Option Addr) (cl : Nat) (shs : List ShM), OpS w1 wr L d first count turn oldest As cS Al cl ((lsAll (ss.take j)).drop cut) shs ∧ shs.map ShM.dsc = (ss.take j).map Sc.dsc ∧ j ≤ ss.length
theorem dsc_at {shs : List ShM} {ss : List Sc} (h : shs.map ShM.dsc = ss.map Sc.dsc) {j : Nat} {s : Sc} (hs : ss[j]? = some s) : ∃ m, shs[j]? = some m ∧ m.dsc = s.dsc := by
  have h1 := congrArg (·[j]?) h
  simp only [List.getElem?_map, hs, Option.map_some] at h1
  cases hm : shs[j]? with
  | none => rw [hm] at h1; cases h1
  | some m => rw [hm] at h1; injection h1 with h1; exact ⟨m, rfl, h1⟩
theorem dsc_mem {shs : List ShM} {ss : List Sc} (h : shs.map ShM.dsc = ss.map Sc.dsc) {m : ShM} (hm : m ∈ shs) : ∃ s ∈ ss, m.dsc = s.dsc := by
  have : m.dsc ∈ ss.map Sc.dsc := by rw [← h]; exact List.mem_map_of_mem hm
  obtain ⟨s, hs, e⟩ := List.mem_map.1 this
  exact ⟨s, hs, e.symm⟩
theorem dsc_parts {m : ShM} {s : Sc} (h : m.dsc = s.dsc) : m.num = s.num ∧ m.tn = s.tn ∧ m.bef = s.bef ∧ m.used = (s.len : Int) ∧ m.body = putsL s.Rs ∧ m.safe = (s.len : Int) ∧ m.lost = false := by
  unfold ShM.dsc Sc.dsc at h
  injection h with h1 h; injection h with h2 h; injection h with h3 h; injection h with h4 h; injection h with h5 h; injection h with h6 h7
  exact ⟨h1, h2, h3, h4, h5, h6, h7⟩
theorem chn_at : ∀ {ss : List Sc} {n : Int} {p : Option Sc} {j : Nat} {s : Sc}, Chn n p ss → ss[j]? = some s → s.num = n + (j : Int)
  | [], _, _, _, _, _, h => by cases h
  | a :: t, n, p, 0, s, h, e => by injection e with e; subst e; rw [h.1]; simp
  | a :: t, n, p, j + 1, s, h, e => by have := chn_at (j := j) h.2.2 e; omega
theorem chn_next : ∀ {ss : List Sc} {n : Int} {p : Option Sc} {j : Nat} {x s : Sc}, Chn n p ss → ss[j]? = some x → ss[j + 1]? = some s → x.tn ≤ s.tn ∧ s.bef = (x.len : Int)
  | [], _, _, _, _, _, _, h, _ => by cases h
  | a :: [], n, p, 0, x, s, h, e, e2 => by cases e2
  | a :: b :: t, n, p, 0, x, s, h, e, e2 => by
    injection e with e; injection e2 with e2; subst e e2
    exact h.2.2.2.1 a rfl
  | a :: t, n, p, j + 1, x, s, h, e, e2 => chn_next (j := j) h.2.2 e e2
theorem last_at {ss : List Sc} {k : Nat} (h : ss.length = k + 1) {x : Sc} (hx : lastOr none ss = some x) : ss[k]? = some x := by
  unfold lastOr at hx
  rw [List.getLast?_eq_getElem?, h, Nat.add_sub_cancel] at hx
  cases hk : ss[k]? with
  | none => rw [hk] at hx; cases hx
  | some y => rw [hk] at hx; exact hx
theorem lsAll_few {ss : List Sc} (h : ∀ s ∈ ss, s.Ok) : (lsAll ss).length ≤ 496 * ss.length := by
  induction ss with
  | nil => simp [lsAll]
  | cons s t ih =>
    have h1 := ih (fun x hx => h x (List.mem_cons_of_mem _ hx))
    have h2 := h s (List.mem_cons_self ..)
    have h3 := puts_ge h2.all
    have h4 := h2.len
    unfold Sc.len at h4
    simp only [lsAll, List.flatMap_cons, List.length_append, lsnsL_length, List.length_cons] at h1 ⊢
    omega
theorem scB_byte {o : Option Sc} (h : ∀ s, o = some s → s.Ok) : ∀ z ∈ scB o, isByte z := by
  cases o with
  | none => exact sec_noughts.byte
  | some s => exact shtL_byte (h s rfl).all.bytes
theorem Sc.dec (s : Sc) (h : s.Ok) (hn : s.num ≤ 9007199254740000) (ht : s.tn < 2147483648) : decN (s.bytes.take 8) = s.num ∧ decN ((s.bytes.drop 8).take 4) = s.tn ∧ decN ((s.bytes.drop 12).take 2) = s.bef ∧ decN ((s.bytes.drop 14).take 2) = (s.len : Int) ∧ (s.bytes.drop 16).take s.len = putsL s.Rs := by
  have h0 := h.num; have h1 := h.tn; have h2 := h.bef; have h3 := h.len
  unfold Sc.bytes
  refine ⟨?_, ?_, ?_, ?_, ?_⟩
  · rw [shtL_0, decN_be 8 s.num (by omega) (by rw [show (2 : Int) ^ (8 * 8) = 18446744073709551616 from by decide]; omega) (by omega)]
  · rw [shtL_8, decN_be 4 s.tn (by omega) (by rw [show (2 : Int) ^ (8 * 4) = 4294967296 from by decide]; omega) (by omega)]
  · rw [shtL_12, decN_be 2 s.bef (by omega) (by rw [show (2 : Int) ^ (8 * 2) = 65536 from by decide]; omega) (by omega)]
  · unfold Sc.len at h3 ⊢; rw [shtL_14, decN_be 2 _ (by omega) (by rw [show (2 : Int) ^ (8 * 2) = 65536 from by decide]; omega) (by omega)]
  · unfold Sc.len; exact shtL_16 _ _ _ _
theorem Sc.Ok.pos {s : Sc} (h : s.Ok) : 0 < s.len ∧ 0 < s.Rs.length ∧ s.Rs.length ≤ 496 := by
  have h1 : 0 < s.Rs.length := List.length_pos_iff.2 h.some_
  have h2 := puts_ge h.all
  have h3 := h.len
  unfold Sc.len at *
  omega
theorem AllOk.take {Rs : List Rec} (h : AllOk Rs) (k : Nat) : AllOk (Rs.take k) := fun R hR => h R (List.mem_of_mem_take hR)
theorem AllOk.drop {Rs : List Rec} (h : AllOk Rs) (k : Nat) : AllOk (Rs.drop k) := fun R hR => h R (List.mem_of_mem_drop hR)
theorem putsL_cut (Rs : List Rec) (k : Nat) : putsL Rs = putsL (Rs.take k) ++ putsL (Rs.drop k) := by rw [← putsL_append, List.take_append_drop]
theorem lsnsL_cut (num : Int) (Rs : List Rec) (k : Nat) (hk : k ≤ Rs.length) : (lsnsL num 0 Rs).drop k = lsnsL num (putsL (Rs.take k)).length (Rs.drop k) := by
  have h := lsnsL_append num (Rs.take k) 0 (Rs.drop k)
  rw [List.take_append_drop, Nat.zero_add] at h
  rw [h, List.drop_left' (by rw [lsnsL_length, List.length_take]; omega)]
theorem ls_first {ss : List Sc} {s : Sc} {cut place : Nat} (h0 : ss[0]? = some s) (hc : cut < s.Rs.length) (hp : place = (putsL (s.Rs.take cut)).length) : (lsAll (ss.take (0 + 1))).drop cut = (lsAll (ss.take 0)).drop cut ++ lsnsL s.num place (s.Rs.drop cut) := by
  cases ss with
  | nil => cases h0
  | cons a t =>
    injection h0 with h0
    subst h0
    simp only [Nat.zero_add, List.take_succ_cons, List.take_zero, lsAll, List.flatMap_cons, List.flatMap_nil, List.append_nil, List.drop_nil, List.nil_append]
    rw [hp]
    exact lsnsL_cut a.num a.Rs cut (Nat.le_of_lt hc)
theorem ls_next {ss : List Sc} {s0 s : Sc} {cut j : Nat} (h0 : ss[0]? = some s0) (hc : cut < s0.Rs.length) (hj : 1 ≤ j) (hs : ss[j]? = some s) : (lsAll (ss.take (j + 1))).drop cut = (lsAll (ss.take j)).drop cut ++ lsnsL s.num 0 s.Rs := by
  rw [List.take_add_one, hs]
  show (lsAll (ss.take j ++ [s])).drop cut = _
  rw [lsAll_snoc, List.drop_append_of_le_length]
  cases ss with
  | nil => cases h0
  | cons a t =>
    injection h0 with h0
    subst h0
    obtain ⟨j', rfl⟩ : ∃ j', j = j' + 1 := ⟨j - 1, by omega⟩
    simp only [List.take_succ_cons, lsAll, List.flatMap_cons, List.length_append, lsnsL_length]
    omega
theorem dsc_next {shs : List ShM} {ss : List Sc} {j : Nat} {s : Sc} {m : ShM} (h : shs.map ShM.dsc = (ss.take j).map Sc.dsc) (hs : ss[j]? = some s) (hm : m.dsc = s.dsc) : (shs ++ [m]).map ShM.dsc = (ss.take (j + 1)).map Sc.dsc := by
  rw [List.take_add_one, hs, List.map_append, h, List.map_append]
  simp [hm]
theorem OpS.fin {w w1 wr : World} {L d S cS : Nat} {first count turn oldest : Int} {Al : Option Addr} {cl cut : Nat} {shs : List ShM} {ss : List Sc} (h : OpS w1 wr L d first count turn oldest (some ⟨S, 0, none⟩) cS Al cl ((lsAll ss).drop cut) shs) (hd : shs.map ShM.dsc = ss.map Sc.dsc) (hL : L = w.heap.size) (h1 : w.heap.size ≤ w1.heap.size) (hT : Turned (fun _ => False) w wr)
    (hok : ∀ s ∈ ss, s.Ok) (hn : ∀ s ∈ ss, s.num ≤ 9007199254740000) (hc : 1 ≤ count ∧ count ≤ 10000) (hl : ss.length ≤ 10000) : HOpen d first count turn oldest cut ss w (.returned (.tuple #[.pointer (some ⟨L, 0, none⟩), .int .i64 0])) wr := by
  have hsl : shs.length = ss.length := by have := congrArg List.length hd; simpa using this
  refine ⟨⟨L, d, first, count, turn, oldest, S, 0, cS, Al, cl, (lsAll ss).drop cut, shs⟩, rfl, ⟨rfl, rfl, rfl, rfl, rfl, rfl, hd⟩, h.log hc (by omega) (fun m hm => ?_) (fun m hm => ?_) ?_, fun i hi => ?_, hT⟩
  · obtain ⟨s, hs, e⟩ := dsc_mem hd hm
    rw [(dsc_parts e).1]
    exact ⟨(hok s hs).num, hn s hs⟩
  · obtain ⟨s, hs, e⟩ := dsc_mem hd hm
    rw [(dsc_parts e).2.2.2.2.1]
    exact (hok s hs).len
  · have h2 := lsAll_few hok
    have h3 : 496 * ss.length ≤ 496 * 10000 := Nat.mul_le_mul_left _ hl
    rw [List.length_drop]
    omega
  · rcases hi with e | e | ⟨o, e⟩ | ⟨m, hm, e⟩
    · have e2 : i = L := e
      omega
    · have e2 : i = S := e
      have := h.nS S rfl
      omega
    · rcases h.lsn.row_or with ⟨e2, _⟩ | ⟨g, e2, _⟩
      · have e3 : Al = some ⟨i, o, none⟩ := e
        rw [e2] at e3; cases e3
      · have e3 : Al = some ⟨i, o, none⟩ := e
        have := h.nl g e2
        rw [e2] at e3
        injection e3 with e3; injection e3 with e3
        omega
    · have := h.ns m hm
      rcases e with e | e <;> omega
set_option maxRecDepth 100000 in
set_option maxHeartbeats 4000000 in
theorem hopen_any (d ms mo : Nat) (A : DA) (first count turn oldest N : Int) (place cut : Nat) (ss : List Sc) (s0 : Sc) (w : World) (h : IsDisk w d ms mo A) (hdn : A.down = false) (hf : 0 ≤ first) (hc : 4 ≤ count) (hfc : first + count ≤ A.n) (ht : 1 ≤ turn ∧ turn < 2147483648)
    (hold : oldest = N * 512 + (place : Int) + 1) (hN : 0 ≤ N ∧ N ≤ 2251799813685000) (hpl : place ≤ 496) (h0 : ss[0]? = some s0) (hcut : cut < s0.Rs.length) (hplc : place = (putsL (s0.Rs.take cut)).length) (hok : ∀ s ∈ ss, s.Ok ∧ s.tn < turn) (hch : Chn N none ss) (hlen : (ss.length : Int) ≤ count - 1)
    (himg : ∀ s ∈ ss, A.lat (first + s.num % count) = s.bytes)
    (hstop : (ss.length : Int) = count - 1 ∨ ∃ oc : Option Sc, A.lat (first + (N + (ss.length : Int)) % count) = scB oc ∧ ∀ s, oc = some s → s.Ok ∧ s.tn < turn ∧ s.num ≤ 9007199254740000 ∧ (s.num = N + (ss.length : Int) → ∃ x, lastOr none ss = some x ∧ (s.tn < x.tn ∨ s.bef ≠ (x.len : Int)))) :
    Calls Tryd.prog 6 #[.pointer (some ⟨d, 0, none⟩), .int .i64 first, .int .i64 count, .int .i64 oldest, .int .i64 turn] w (HOpen d first count turn oldest cut ss w) := by
  have hn1 := h.n1
  have hn2 := h.n2
  have hx0 := Lib.hid (show w.cell? ⟨d, 0, none⟩ = some (.int .i64 A.n) from h.blk.cell 0)
  have HRD := Lib.hid (fun (w' : World) (t : Turned (fun _ => False) w w') (k : Int) (h0 : 0 ≤ k) (h1 : k < A.n) => read_ok d ms mo A k w' (h.fresh t) hdn h0 h1)
  have HIM := Lib.hid himg
  have HST := Lib.hid hstop
  have HOK := Lib.hid hok
  have HCH := Lib.hid hch
  have H0 := Lib.hid h0
  have HPL := Lib.hid hplc
  have HCU := Lib.hid hcut
  have hpos : 0 < ss.length := (List.getElem?_eq_some_iff.1 h0).1
  have hnum := Lib.hid (Chn.num hch)
  clear h himg hstop hok hch h0 hplc hcut hdn
  obtain ⟨Nn, hNn⟩ : ∃ z, z = A.n := ⟨_, rfl⟩
  rw [← hNn] at hn1 hn2 hfc hx0
  have HNn := Lib.hid hNn
  clear hNn
  obtain ⟨ht0, ht2⟩ := ht
  obtain ⟨hN0, hN1⟩ := hN
  have f1 : first ≤ Nn := by omega
  have f3 : (0 : Int) < Nn := by omega
  have f4 : (Nn == 0) = false := by simp; omega
  have fw : IntKind.i64.wrap (Nn - first) = Nn - first := IntWalk.i64_in _ (by omega)
  have f5 : ¬ count < 4 := by omega
  have f6 : ¬ first < 0 := by omega
  have f7 : ¬ Nn < first := by omega
  have f8 : ¬ Nn - first < count := by omega
  have f9 : ¬ turn < 1 := by omega
  have f10 : ¬ 2147483648 ≤ turn := by omega
  have g1 : IntKind.i64.wrap (oldest - 1) = N * 512 + (place : Int) := by rw [hold, show N * 512 + (place : Int) + 1 - 1 = N * 512 + (place : Int) by omega]; exact IntWalk.i64_in _ (by omega)
  have g2 : oldest - 1 = N * 512 + (place : Int) := by omega
  have g3 : (N * 512 + (place : Int)).tmod 512 = (place : Int) := by rw [Int.tmod_eq_emod_of_nonneg (by omega)]; omega
  have g4 : (N * 512 + (place : Int)) % 512 = (place : Int) := by omega
  have g5 : (N * 512 + (place : Int)).tdiv 512 = N := by rw [Int.tdiv_eq_ediv_of_nonneg (by omega)]; omega
  have g6 : (N * 512 + (place : Int)) / 512 = N := by omega
  have g7 : ¬ oldest < 1 := by omega
  have g8 : ¬ 1152921504606846976 < oldest := by omega
  have g9 : ¬ (496 : Int) < (place : Int) := by omega
  have g10 : (place : Int) ≤ 496 := by omega
  have HOLD := Lib.hid hold
  clear hold
  go_enter Tryd.func6, Tryd.ntmps6
  go_wp2_with fail
  refine (sectors_any d Nn w hx0.out).mono ?_
  rintro e w1 ⟨rfl, rfl⟩
  go_wp2_with fail
  have BL := Lib.hid (show Blk (w.alloc (.cells #[.pointer (some ⟨d, 0, none⟩), .int .i64 first, .int .i64 count, .int .i64 turn, .int .i64 oldest, .slice none 0 0, .slice none 0 0] 65)) w.heap.size 65 (logC d first count turn oldest none 0 0 none 0 0) from Blk.new _ _ _)
  have T1 := Lib.hid ((Turned.refl (fun _ => False) w).alloc (.cells #[.pointer (some ⟨d, 0, none⟩), .int .i64 first, .int .i64 count, .int .i64 turn, .int .i64 oldest, .slice none 0 0, .slice none 0 0] 65))
  generalize w.alloc (.cells #[.pointer (some ⟨d, 0, none⟩), .int .i64 first, .int .i64 count, .int .i64 turn, .int .i64 oldest, .slice none 0 0, .slice none 0 0] 65) = w1 at *
  obtain ⟨L, hL⟩ : ∃ L, L = w.heap.size := ⟨_, rfl⟩
  rw [← hL] at BL ⊢
  have HLe := Lib.hid hL
  clear hL
  obtain ⟨q, hq⟩ : ∃ q, q = ss.length := ⟨_, rfl⟩
  have HQ := Lib.hid hq
  rw [← hq] at hpos hlen
  clear hq
  have hst := Lib.hid (show OpRel w1 L d first count turn oldest cut ss 0 w1 from ⟨none, 0, none, 0, [], ⟨by have h9 := BL.out; exact (by simpa [lsAll] using h9), OwnE.nil _ _ _, by show OwnE w1 _ 1 none ((lsAll []).drop cut).length 0 (i64s ((lsAll []).drop cut)); rw [show (lsAll []).drop cut = [] by simp [lsAll]]; exact OwnE.nil _ _ _, by simp, by simp, by simp, (fun a e => by cases e), (fun a e => by cases e), by simp, Turned.refl _ _⟩, rfl, Nat.zero_le _⟩)
  go_loopw [15, 16, 17, 18, 19, 20, 21, 22] (fun v15 _ _ _ _ _ _ _ wr => ∃ j : Nat, v15 = .int .i64 (N + (j : Int)) ∧ OpRel w1 L d first count turn oldest cut ss j wr) (fun v15 _ _ _ _ _ _ _ _ => (N + (q : Int) + 1 - intOf v15).toNat)
  case atStart => exact ⟨0, by simp, hst.out⟩
  case round =>
    obtain ⟨j, rfl, As, cS, Al, cl, shs, ho, hd, hjq⟩ := hrel
    rw [← HQ.out] at hjq
    have HO := Lib.hid ho
    have HD := Lib.hid hd
    have hsl : shs.length = j := by have h1 := congrArg List.length hd; rw [List.length_map, List.length_map, List.length_take, ← HQ.out] at h1; omega
    have TT := Lib.hid (T1.out.trans (W := fun _ => False) ho.turned (fun _ e => e) (fun k e => .inr (by have h1 := HLe.out; have h2 : k = L := e; omega)))
    have HSL := Lib.hid hsl
    have x5 : wr.cell? ⟨L, 5, none⟩ = some (.slice As j cS) := by rw [← hsl]; exact ho.blk.cell 5
    have c1 := ho.blk.cell 1
    have c2 := ho.blk.cell 2
    clear ho hd hst hsl
    have hj9 : (j : Int) ≤ 9999 := by omega
    by_cases hlt : j < q
    · obtain ⟨s, hs⟩ : ∃ s, ss[j]? = some s := ⟨_, List.getElem?_eq_getElem (by rw [← HQ.out]; exact hlt)⟩
      have hms : s ∈ ss := List.mem_of_getElem? hs
      have hsn : s.num = N + (j : Int) := chn_at HCH.out hs
      have hsO := (HOK.out s hms).1
      have hst := (HOK.out s hms).2
      have hdec := s.dec hsO (by omega) (by omega)
      have hjc : (j : Int) < count - 1 := by omega
      have hk0 : 0 ≤ (N + (j : Int)) % count := Int.emod_nonneg _ (by omega)
      have hk1 : (N + (j : Int)) % count < count := Int.emod_lt_of_pos _ (by omega)
      have HS := Lib.hid hs
      have HDC := Lib.hid hdec
      have HSO := Lib.hid hsO
      have HIMs := Lib.hid (HIM.out s hms)
      have hpp := hsO.pos
      have hl4 := hsO.len
      have HSN := Lib.hid hsn
      clear hdec hs hsO hms
      go_wp2_with fail
      refine (lsector_any L first count (N + (j : Int)) wr c1 c2 ⟨hf, by omega⟩ ⟨by omega, by omega⟩ ⟨by omega, by omega⟩).mono ?_
      rintro e w2 ⟨rfl, t2⟩
      have U2 := Lib.hid t2
      clear t2 c1 c2
      go_wp2_with fail
      have hrd := HRD.out w2 (TT.out.and_ U2.out) (first + (N + (j : Int)) % count) (by omega) (by rw [← HNn.out]; omega)
      rw [← HSN.out, HIMs.out, HSN.out] at hrd
      refine hrd.mono ?_
      clear hrd
      rintro e w3 ⟨gr, cr, rfl, rr, _, t3⟩
      have U3 := Lib.hid (U2.out.and_ t3)
      have RR := Lib.hid rr
      clear t3 rr U2
      go_wp2_with fail
      refine (lread_yes gr cr (N + (j : Int)) s.tn s.bef turn s.len s.bytes w3 RR.out (scB_byte (o := some s) (fun x e => by injection e with e; subst e; exact HSO.out)) (by rw [HDC.out.1, HSN.out]) HDC.out.2.1 HDC.out.2.2.1 HDC.out.2.2.2.1 HSO.out.tn hst HSO.out.bef.2 hpp.1 hl4).mono ?_
      rintro e w4 ⟨g, gb, c4, rfl, hsh, hg, hgb, hgg, t4⟩
      rw [HDC.out.2.2.2.2] at hsh
      have SH := Lib.hid hsh
      have U4 := Lib.hid (U3.out.and_ t4)
      have s3 := U3.out.size
      have G4 := Lib.hid (And.intro (Nat.le_trans s3 hg) (Nat.le_trans s3 hgb))
      clear t4 RR U3 hsh hg hgb s3 x5
      have HO4 := Lib.hid (HO.out.fresh U4.out)
      have x5 : w4.cell? ⟨L, 5, none⟩ = some (.slice As j cS) := by rw [← HSL.out]; exact HO4.out.blk.cell 5
      by_cases hj0 : j = 0
      · have hk1 : s = s0 := by have h1 := HS.out; rw [hj0, H0.out] at h1; injection h1 with h1; exact h1.symm
        have hj0b : ((j : Int) == 0) = true := by rw [hj0]; rfl
        have HJ0 := Lib.hid hj0
        clear hj0
        subst hk1
        go_wp2_with fail
        have hrc := lrecords_any g gb c4 (N + (j : Int)) s.tn s.bef (s.len : Int) (s.len : Int) (putsL s.Rs) (putsL (s.Rs.take cut)) false (s.Rs.drop cut) w4 SH.out (putsL_cut s.Rs cut) (HSO.out.all.drop cut) ⟨by omega, by omega⟩ hl4
        rw [← HPL.out] at hrc
        refine hrc.mono ?_
        clear hrc
        rintro e w5 ⟨Ar, c5, rfl, o5, g5, t5⟩
        have hRp : 0 < (s.Rs.drop cut).length := by rw [List.length_drop]; have h1 := HCU.out; omega
        obtain ⟨ar, rfl, r5⟩ := o5.some_ hRp
        have R5 := Lib.hid r5
        have HO5 := Lib.hid (HO4.out.fresh t5)
        have SH := Lib.hid (SH.out.turned t5 (fun e => e) (fun e => e))
        clear t5 o5 g5 r5 x5 HO4 U4
        have x5 : w5.cell? ⟨L, 5, none⟩ = some (.slice As j cS) := by rw [← HSL.out]; exact HO5.out.blk.cell 5
        have hrow5 := Lib.hid (show OwnE w5 68 1 As j cS (shs.map ShM.ptr) by rw [← HSL.out]; exact HO5.out.row)
        have harL : ¬ ar = L := fun e => by
          obtain ⟨cx, bx, _⟩ := R5.out.row
          rw [e] at bx
          exact absurd (Blk.inj HO5.out.blk bx).2 (by decide)
        have hap : ∀ q, As = some ⟨q, 0, none⟩ → ¬ ar = q := fun q e e2 => by
          have hr := HO5.out.row
          rw [e] at hr
          obtain ⟨cx, bx, _⟩ := R5.out.row
          obtain ⟨cy, by_, _⟩ := hr.row.row
          rw [e2] at bx
          exact absurd (Blk.inj by_ bx).2 (by decide)
        have HAP := Lib.hid (And.intro hap harL)
        clear hap harL
        have HM5 := Lib.hid (show ShM.Is ⟨g, gb, c4, N + (j : Int), s.tn, s.bef, (s.len : Int), putsL s.Rs, (s.len : Int), false⟩ w5 from SH.out)
        have hnew := Lib.hid (show (w1.heap.size ≤ g ∧ w1.heap.size ≤ gb) ∧ ∀ t ∈ shs, t.g ≠ g ∧ t.gb ≠ gb from ⟨⟨Nat.le_trans HO.out.turned.size G4.out.1, Nat.le_trans HO.out.turned.size G4.out.2⟩, fun t ht => ⟨by have h1 := (HO.out.sht t ht).blk.lt; have h2 := G4.out.1; omega, by have h1 := (HO.out.sht t ht).bod.lt; have h2 := G4.out.2; omega⟩⟩)
        clear SH
        have hfl : ((lsAll (ss.take j)).drop cut).length ≤ 4960000 := by
          have h1 := lsAll_few (ss := ss.take j) (fun x hx => (HOK.out x (List.mem_of_mem_take hx)).1)
          rw [List.length_take] at h1
          rw [List.length_drop]
          have h2 : min j ss.length ≤ 10000 := by omega
          have h3 : 496 * min j ss.length ≤ 496 * 10000 := Nat.mul_le_mul_left _ h2
          omega
        obtain ⟨zs, hzs⟩ : ∃ zs, zs = (lsnsL (N + (j : Int)) place (s.Rs.drop cut)) := ⟨_, rfl⟩
        have hzl : zs.length = (s.Rs.drop cut).length := by rw [hzs]; exact lsnsL_length _ _ _
        have hrs6 : (s.Rs.drop cut).length ≤ 496 := by rw [List.length_drop]; omega
        rw [← hzs] at R5
        have HZS := Lib.hid hzs
        clear hzs
        obtain ⟨lsj, hlsj⟩ : ∃ l, l = ((lsAll (ss.take j)).drop cut) := ⟨_, rfl⟩
        have HLSJ := Lib.hid hlsj
        rw [← hlsj] at HO5 hfl
        clear hlsj
        obtain ⟨rn, hrn⟩ : ∃ rn, rn = (s.Rs.drop cut).length := ⟨_, rfl⟩
        rw [← hrn] at R5 hzl hrs6 hRp ⊢
        have HRN := Lib.hid hrn
        clear hrn
        obtain ⟨nl, hnl⟩ : ∃ nl, nl = lsj.length := ⟨_, rfl⟩
        have HNL := Lib.hid hnl
        rw [← hnl] at hfl
        clear hnl
        have MF := Lib.hid (And.intro hfl (And.intro hrs6 (And.intro hRp hzl)))
        clear hfl hrs6 hRp hzl hpp hl4
        go_wp2_with (first | (at_builtin; (refine wpList_appE ptrT rfl (.tmp 166) (.tmp 168) rfl (OwnE.fresh hrow5.out ((Turned.refl (fun _ => False) w5).alloc (.cells #[.pointer (some ⟨g, 0, none⟩)] 68))) ⟨w5.heap.size, 0, none⟩ 1 1 [.pointer (some ⟨g, 0, none⟩)] rfl (new1_news w5 68 _) (by simp [Value.oneCell']) (by omega) (by unfold maxLen; omega) (by omega) rfl rfl ?_; intro A6 c6 w6 o6 a6; have hst := OpS.addS HO5.out HM5.out hnew.out.1 hnew.out.2 (by rw [HSL.out]; exact o6) a6; rw [HSL.out] at hst; obtain ⟨y5, yf, hadd⟩ := hst; have x6 : (w6.setCell ⟨L, 5, none⟩ (.slice A6 (j + 1) c6)).cell? ⟨L, 6, none⟩ = some (.slice Al nl cl) := (HNL.out ▸ hadd.blk.cell 6); have R6 := Lib.hid (RowE.turned (RowE.turned (RowE.fresh R5.out ((Turned.refl (fun _ => False) w5).alloc _)) a6.turned (fun e => HAP.out.1 _ e rfl)) ((Turned.refl (fun i => i = L) w6).setCell (p := ⟨L, 5, none⟩) (.inl rfl) (.slice A6 (j + 1) c6)) HAP.out.2); have HA6 := Lib.hid hadd; clear hadd o6 a6)) | (at_builtin; go_loud (refine wpList_appE i64T rfl (.tmp 176) (.tmp 177) rfl (HNL.out ▸ HA6.out.lsn) ⟨ar, 0, none⟩ rn c5 (i64s zs) (by unfold i64s; rw [List.length_map, MF.out.2.2.2, Nat.mul_one]) (R6.out.celR.news ⟨ar, 0, none⟩ rfl) i64s_one MF.out.2.2.1 (by have h1 := MF.out.1; have h2 := MF.out.2.1; unfold maxLen; omega) (by have h1 := MF.out.1; have h2 := MF.out.2.1; omega) rfl rfl ?_; intro A7 c7 w7 o7 a7; have hst := OpS.addL (zs := zs) HA6.out (by rw [← HNL.out, MF.out.2.2.2]; exact o7) a7; rw [← HNL.out, MF.out.2.2.2] at hst; obtain ⟨y6, yg, hadd⟩ := hst; have HA7 := Lib.hid hadd; clear hadd o7 a7)))
        have hls : (lsAll (ss.take (j + 1))).drop cut = lsj ++ zs := by
          have e0 := HJ0.out
          have h1 := HS.out
          rw [HLSJ.out, HZS.out, ← HSN.out]
          subst e0
          exact ls_first h1 HCU.out HPL.out
        have hrel : OpRel w1 L d first count turn oldest cut ss (j + 1) (w7.setCell ⟨L, 6, none⟩ (.slice A7 (nl + rn) c7)) := ⟨A6, c6, A7, c7, _, by rw [hls]; exact HA7.out, dsc_next HD.out HS.out (by unfold ShM.dsc Sc.dsc; rw [HSN.out]), by rw [← HQ.out]; exact hlt⟩
        have HREL := Lib.hid hrel
        clear hrel hls
        exact ⟨⟨j + 1, by rw [show ((j + 1 : Nat) : Int) = (j : Int) + 1 from rfl, Int.add_assoc], HREL.out⟩, by simp [intOf] <;> omega⟩
      · have HJ1 := Lib.hid (show 1 ≤ j by omega)
        obtain ⟨k, hk⟩ : ∃ k, j = k + 1 := ⟨j - 1, by have := HJ1.out; omega⟩
        obtain ⟨S, eS, hrS⟩ := HO4.out.row.some_ (by rw [HSL.out]; omega)
        have ES := Lib.hid eS
        clear eS
        have hjk1 : IntKind.i64.wrap ((j : Int) - 1) = (k : Int) := by rw [show (j : Int) - 1 = (k : Int) by omega]; exact IntWalk.i64_in _ (by omega)
        have hjk2 : (j : Int) - 1 = (k : Int) := by omega
        have hkj : (k : Int) < (j : Int) := by omega
        have hj0b : ((j : Int) == 0) = false := by simp; omega
        obtain ⟨x, hx⟩ : ∃ x, ss[k]? = some x := ⟨_, List.getElem?_eq_getElem (by rw [← HQ.out]; omega)⟩
        have HXK := Lib.hid hx
        have hnx := chn_next HCH.out hx (by rw [← hk]; exact HS.out)
        clear hx
        have hxk : (ss.take j)[k]? = some x := by rw [List.getElem?_take, if_pos (by omega)]; exact HXK.out
        obtain ⟨m, hm, hmd⟩ := dsc_at HD.out hxk
        have hmp := dsc_parts hmd
        have hmm : m ∈ shs := List.mem_of_getElem? hm
        have hmI := HO4.out.sht m hmm
        have yk : w4.cell? ⟨S, k, none⟩ = some (.pointer (some ⟨m.g, 0, none⟩)) := hrS.cell (i := k) (v := m.ptr) (by rw [List.getElem?_map, hm]; rfl)
        have ym1 : w4.cell? ⟨m.g, 1, none⟩ = some (.int .i64 x.tn) := by have h9 := hmI.blk.cell 1; exact (hmp.2.1 ▸ h9)
        have ym4 : w4.cell? ⟨m.g, 4, none⟩ = some (.slice (some ⟨m.gb, 0, none⟩) x.len m.c) := by have h9 : w4.cell? ⟨m.g, 4, none⟩ = some (.slice (some ⟨m.gb, 0, none⟩) m.body.length m.c) := hmI.blk.cell 4; rw [hmp.2.2.2.2.1] at h9; exact h9
        have yg1 : w4.cell? ⟨g, 1, none⟩ = some (.int .i64 s.tn) := SH.out.blk.cell 1
        have yg2 : w4.cell? ⟨g, 2, none⟩ = some (.int .i64 s.bef) := SH.out.blk.cell 2
        clear hxk hm hmd hmp hmm hmI hrS hk
        generalize m.g = mg at *
        generalize m.gb = mgb at *
        generalize m.c = mc at *
        have hn1 : ¬ s.tn < x.tn := by omega
        have hn2 : (s.bef != (x.len : Int)) = false := by rw [hnx.2]; simp
        have hn3 : (s.bef == (x.len : Int)) = true := by rw [hnx.2]; simp
        clear hnx
        obtain rfl := ES.out
        generalize x.len = xl at *
        generalize x.tn = xt at *
        go_wp2_with fail
        go_quiet (fail)
        have td := (Turned.refl (fun _ => False) w4).drewN nq
        have HO4 := Lib.hid (HO4.out.fresh td)
        have U4 := Lib.hid (U4.out.and_ td)
        have ym1 : (w4.drewN nq).cell? ⟨mg, 1, none⟩ = some (.int .i64 xt) := ym1
        have ym4 : (w4.drewN nq).cell? ⟨mg, 4, none⟩ = some (.slice (some ⟨mgb, 0, none⟩) xl mc) := ym4
        have yg1 : (w4.drewN nq).cell? ⟨g, 1, none⟩ = some (.int .i64 s.tn) := yg1
        have yg2 : (w4.drewN nq).cell? ⟨g, 2, none⟩ = some (.int .i64 s.bef) := yg2
        have SH := Lib.hid (SH.out.turned td (fun e => e) (fun e => e))
        clear td x5 yk
        generalize w4.drewN nq = w4 at *
        go_wp2_with fail
        go_quiet (fail)
        have td := (Turned.refl (fun _ => False) w4).drewN nq
        have HO4 := Lib.hid (HO4.out.fresh td)
        have U4 := Lib.hid (U4.out.and_ td)
        have SH := Lib.hid (SH.out.turned td (fun e => e) (fun e => e))
        clear td ym1 ym4 yg1 yg2
        generalize w4.drewN nq = w4 at *
        have x5 : w4.cell? ⟨L, 5, none⟩ = some (.slice (some ⟨S, 0, none⟩) j cS) := by rw [← HSL.out]; exact HO4.out.blk.cell 5
        obtain ⟨As, hAs⟩ : ∃ As : Option Addr, As = some ⟨S, 0, none⟩ := ⟨_, rfl⟩
        rw [← hAs] at HO4 HO x5 ⊢
        clear hAs
        go_wp2_with fail
        have hrc := lrecords_any g gb c4 (N + (j : Int)) s.tn s.bef (s.len : Int) (s.len : Int) (putsL s.Rs) [] false s.Rs w4 SH.out (by simp) HSO.out.all ⟨by omega, by omega⟩ hl4
        rw [show ([] : List Int).length = 0 from rfl] at hrc
        refine hrc.mono ?_
        clear hrc
        rintro e w5 ⟨Ar, c5, rfl, o5, g5, t5⟩
        have hRp : 0 < s.Rs.length := by omega
        obtain ⟨ar, rfl, r5⟩ := o5.some_ hRp
        have R5 := Lib.hid r5
        have HO5 := Lib.hid (HO4.out.fresh t5)
        have SH := Lib.hid (SH.out.turned t5 (fun e => e) (fun e => e))
        clear t5 o5 g5 r5 x5 HO4 U4
        have x5 : w5.cell? ⟨L, 5, none⟩ = some (.slice As j cS) := by rw [← HSL.out]; exact HO5.out.blk.cell 5
        have hrow5 := Lib.hid (show OwnE w5 68 1 As j cS (shs.map ShM.ptr) by rw [← HSL.out]; exact HO5.out.row)
        have harL : ¬ ar = L := fun e => by
          obtain ⟨cx, bx, _⟩ := R5.out.row
          rw [e] at bx
          exact absurd (Blk.inj HO5.out.blk bx).2 (by decide)
        have hap : ∀ q, As = some ⟨q, 0, none⟩ → ¬ ar = q := fun q e e2 => by
          have hr := HO5.out.row
          rw [e] at hr
          obtain ⟨cx, bx, _⟩ := R5.out.row
          obtain ⟨cy, by_, _⟩ := hr.row.row
          rw [e2] at bx
          exact absurd (Blk.inj by_ bx).2 (by decide)
        have HAP := Lib.hid (And.intro hap harL)
        clear hap harL
        have HM5 := Lib.hid (show ShM.Is ⟨g, gb, c4, N + (j : Int), s.tn, s.bef, (s.len : Int), putsL s.Rs, (s.len : Int), false⟩ w5 from SH.out)
        have hnew := Lib.hid (show (w1.heap.size ≤ g ∧ w1.heap.size ≤ gb) ∧ ∀ t ∈ shs, t.g ≠ g ∧ t.gb ≠ gb from ⟨⟨Nat.le_trans HO.out.turned.size G4.out.1, Nat.le_trans HO.out.turned.size G4.out.2⟩, fun t ht => ⟨by have h1 := (HO.out.sht t ht).blk.lt; have h2 := G4.out.1; omega, by have h1 := (HO.out.sht t ht).bod.lt; have h2 := G4.out.2; omega⟩⟩)
        clear SH
        have hfl : ((lsAll (ss.take j)).drop cut).length ≤ 4960000 := by
          have h1 := lsAll_few (ss := ss.take j) (fun x hx => (HOK.out x (List.mem_of_mem_take hx)).1)
          rw [List.length_take] at h1
          rw [List.length_drop]
          have h2 : min j ss.length ≤ 10000 := by omega
          have h3 : 496 * min j ss.length ≤ 496 * 10000 := Nat.mul_le_mul_left _ h2
          omega
        obtain ⟨zs, hzs⟩ : ∃ zs, zs = (lsnsL (N + (j : Int)) 0 s.Rs) := ⟨_, rfl⟩
        have hzl : zs.length = s.Rs.length := by rw [hzs]; exact lsnsL_length _ _ _
        have hrs6 : s.Rs.length ≤ 496 := by omega
        rw [← hzs] at R5
        have HZS := Lib.hid hzs
        clear hzs
        obtain ⟨lsj, hlsj⟩ : ∃ l, l = ((lsAll (ss.take j)).drop cut) := ⟨_, rfl⟩
        have HLSJ := Lib.hid hlsj
        rw [← hlsj] at HO5 hfl
        clear hlsj
        obtain ⟨rn, hrn⟩ : ∃ rn, rn = s.Rs.length := ⟨_, rfl⟩
        rw [← hrn] at R5 hzl hrs6 hRp ⊢
        have HRN := Lib.hid hrn
        clear hrn
        obtain ⟨nl, hnl⟩ : ∃ nl, nl = lsj.length := ⟨_, rfl⟩
        have HNL := Lib.hid hnl
        rw [← hnl] at hfl
        clear hnl
        have MF := Lib.hid (And.intro hfl (And.intro hrs6 (And.intro hRp hzl)))
        clear hfl hrs6 hRp hzl hpp hl4
        go_wp2_with (first | (at_builtin; (refine wpList_appE ptrT rfl (.tmp 166) (.tmp 168) rfl (OwnE.fresh hrow5.out ((Turned.refl (fun _ => False) w5).alloc (.cells #[.pointer (some ⟨g, 0, none⟩)] 68))) ⟨w5.heap.size, 0, none⟩ 1 1 [.pointer (some ⟨g, 0, none⟩)] rfl (new1_news w5 68 _) (by simp [Value.oneCell']) (by omega) (by unfold maxLen; omega) (by omega) rfl rfl ?_; intro A6 c6 w6 o6 a6; have hst := OpS.addS HO5.out HM5.out hnew.out.1 hnew.out.2 (by rw [HSL.out]; exact o6) a6; rw [HSL.out] at hst; obtain ⟨y5, yf, hadd⟩ := hst; have x6 : (w6.setCell ⟨L, 5, none⟩ (.slice A6 (j + 1) c6)).cell? ⟨L, 6, none⟩ = some (.slice Al nl cl) := (HNL.out ▸ hadd.blk.cell 6); have R6 := Lib.hid (RowE.turned (RowE.turned (RowE.fresh R5.out ((Turned.refl (fun _ => False) w5).alloc _)) a6.turned (fun e => HAP.out.1 _ e rfl)) ((Turned.refl (fun i => i = L) w6).setCell (p := ⟨L, 5, none⟩) (.inl rfl) (.slice A6 (j + 1) c6)) HAP.out.2); have HA6 := Lib.hid hadd; clear hadd o6 a6)) | (at_builtin; go_loud (refine wpList_appE i64T rfl (.tmp 176) (.tmp 177) rfl (HNL.out ▸ HA6.out.lsn) ⟨ar, 0, none⟩ rn c5 (i64s zs) (by unfold i64s; rw [List.length_map, MF.out.2.2.2, Nat.mul_one]) (R6.out.celR.news ⟨ar, 0, none⟩ rfl) i64s_one MF.out.2.2.1 (by have h1 := MF.out.1; have h2 := MF.out.2.1; unfold maxLen; omega) (by have h1 := MF.out.1; have h2 := MF.out.2.1; omega) rfl rfl ?_; intro A7 c7 w7 o7 a7; have hst := OpS.addL (zs := zs) HA6.out (by rw [← HNL.out, MF.out.2.2.2]; exact o7) a7; rw [← HNL.out, MF.out.2.2.2] at hst; obtain ⟨y6, yg, hadd⟩ := hst; have HA7 := Lib.hid hadd; clear hadd o7 a7)))
        have hls : (lsAll (ss.take (j + 1))).drop cut = lsj ++ zs := by
          rw [HLSJ.out, HZS.out, ← HSN.out]
          exact ls_next H0.out HCU.out HJ1.out HS.out
        have hrel : OpRel w1 L d first count turn oldest cut ss (j + 1) (w7.setCell ⟨L, 6, none⟩ (.slice A7 (nl + rn) c7)) := ⟨A6, c6, A7, c7, _, by rw [hls]; exact HA7.out, dsc_next HD.out HS.out (by unfold ShM.dsc Sc.dsc; rw [HSN.out]), by rw [← HQ.out]; exact hlt⟩
        have HREL := Lib.hid hrel
        clear hrel hls
        exact ⟨⟨j + 1, by rw [show ((j + 1 : Nat) : Int) = (j : Int) + 1 from rfl, Int.add_assoc], HREL.out⟩, by simp [intOf] <;> omega⟩
    · have hje : j = ss.length := by have := HQ.out; omega
      have HJ1 := Lib.hid (show 1 ≤ j by omega)
      have HD := Lib.hid (show shs.map ShM.dsc = ss.map Sc.dsc by have h9 := HD.out; rw [hje, List.take_of_length_le (Nat.le_refl _)] at h9; exact h9)
      have HO := Lib.hid (show OpS w1 wr L d first count turn oldest As cS Al cl ((lsAll ss).drop cut) shs by have h9 := HO.out; rw [hje, List.take_of_length_le (Nat.le_refl _)] at h9; exact h9)
      obtain ⟨S, eS, _⟩ := HO.out.row.some_ (by rw [HSL.out]; omega)
      subst eS
      have hj0b : ((j : Int) == 0) = false := by simp; omega
      have hstp := HST.out
      rw [← hje] at hstp
      have HJE := Lib.hid hje
      clear hje hlt
      rcases hstp with hstp | ⟨oc, hoc, hos⟩
      · have hjc : ¬ (j : Int) < count - 1 := by omega
        go_wp2_with fail
        go_ret2
        have TF := Lib.hid (TT.out)
        exact HO.out.fin HD.out HLe.out T1.out.size TF.out (fun x hx => (HOK.out x hx).1) (fun x hx => by have h1 := hnum.out x hx; have h2 := HQ.out; omega) ⟨by omega, by omega⟩ (by have := HQ.out; omega)
      · by_cases hjc : (j : Int) < count - 1
        · have hk0 : 0 ≤ (N + (j : Int)) % count := Int.emod_nonneg _ (by omega)
          have hk1 : (N + (j : Int)) % count < count := Int.emod_lt_of_pos _ (by omega)
          have HOC := Lib.hid hoc
          have HOS := Lib.hid hos
          clear hoc hos
          go_wp2_with fail
          refine (lsector_any L first count (N + (j : Int)) wr c1 c2 ⟨hf, by omega⟩ ⟨by omega, by omega⟩ ⟨by omega, by omega⟩).mono ?_
          rintro e w2 ⟨rfl, t2⟩
          have U2 := Lib.hid t2
          clear t2 c1 c2
          go_wp2_with fail
          have hrd := HRD.out w2 (TT.out.and_ U2.out) (first + (N + (j : Int)) % count) (by omega) (by rw [← HNn.out]; omega)
          rw [HOC.out] at hrd
          refine hrd.mono ?_
          clear hrd
          rintro e w3 ⟨gr, cr, rfl, rr, _, t3⟩
          have U3 := Lib.hid (U2.out.and_ t3)
          have RR := Lib.hid rr
          clear t3 rr U2
          go_wp2_with fail
          by_cases hno : decN ((scB oc).take 8) ≠ N + (j : Int) ∨ decN (((scB oc).drop 8).take 4) < 1
          · refine (lread_no gr cr (N + (j : Int)) turn (scB oc) w3 RR.out (scB_byte (fun s e => (HOS.out s e).1)) hno).mono ?_
            rintro e w4 ⟨rfl, t4⟩
            have U4 := Lib.hid (U3.out.and_ t4)
            have HO := Lib.hid (HO.out.fresh U4.out)
            clear t4 x5 RR
            have x5 : w4.cell? ⟨L, 5, none⟩ = some (.slice (some ⟨S, 0, none⟩) j cS) := by rw [← HSL.out]; exact HO.out.blk.cell 5
            go_wp2_with fail
            go_ret2
            have TF := Lib.hid (TT.out.and_ U4.out)
            exact HO.out.fin HD.out HLe.out T1.out.size TF.out (fun x hx => (HOK.out x hx).1) (fun x hx => by have h1 := hnum.out x hx; have h2 := HQ.out; omega) ⟨by omega, by omega⟩ (by have := HQ.out; omega)
          · cases oc with
            | none => exact absurd (.inr noughts_dec) hno
            | some s =>
              obtain ⟨hsO, hst, hsn, hsx⟩ := HOS.out s rfl
              have hdec := s.dec hsO hsn (by omega)
              have hsj : s.num = N + (j : Int) := by
                have h1 : ¬ decN (s.bytes.take 8) ≠ N + (j : Int) := fun e => hno (.inl e)
                rw [hdec.1] at h1
                exact Classical.not_not.1 h1
              obtain ⟨x, hxl, hxx⟩ := hsx hsj
              have HDC := Lib.hid hdec
              have HSO := Lib.hid hsO
              have HSJ := Lib.hid hsj
              have HXL := Lib.hid hxl
              have HXX := Lib.hid hxx
              have hpp := hsO.pos
              have hl4 := hsO.len
              clear hdec hsO hsn hsx hxl hxx hno hsj
              refine (lread_yes gr cr (N + (j : Int)) s.tn s.bef turn s.len s.bytes w3 RR.out (scB_byte (o := some s) (fun x e => by injection e with e; subst e; exact HSO.out)) (by rw [HDC.out.1, HSJ.out]) HDC.out.2.1 HDC.out.2.2.1 HDC.out.2.2.2.1 HSO.out.tn hst HSO.out.bef.2 hpp.1 hl4).mono ?_
              rintro e w4 ⟨g, gb, c4, rfl, hsh, hg, hgb, hgg, t4⟩
              rw [HDC.out.2.2.2.2] at hsh
              have SH := Lib.hid hsh
              have U4 := Lib.hid (U3.out.and_ t4)
              clear t4 RR U3 hsh hg hgb x5
              have HO4 := Lib.hid (HO.out.fresh U4.out)
              have x5 : w4.cell? ⟨L, 5, none⟩ = some (.slice (some ⟨S, 0, none⟩) j cS) := by rw [← HSL.out]; exact HO4.out.blk.cell 5
              clear HO hj0b
              obtain ⟨k, hk⟩ : ∃ k, j = k + 1 := ⟨j - 1, by have := HJ1.out; omega⟩
              have hrS := HO4.out.row.row
              have hjk1 : IntKind.i64.wrap ((j : Int) - 1) = (k : Int) := by rw [show (j : Int) - 1 = (k : Int) by omega]; exact IntWalk.i64_in _ (by omega)
              have hjk2 : (j : Int) - 1 = (k : Int) := by omega
              have hkj : (k : Int) < (j : Int) := by omega
              have hj0b : ((j : Int) == 0) = false := by simp; omega
              have hxk : ss[k]? = some x := last_at (by have := HJE.out; omega) HXL.out
              obtain ⟨m, hm, hmd⟩ := dsc_at HD.out hxk
              have hmp := dsc_parts hmd
              have hmm : m ∈ shs := List.mem_of_getElem? hm
              have hmI := HO4.out.sht m hmm
              have yk : w4.cell? ⟨S, k, none⟩ = some (.pointer (some ⟨m.g, 0, none⟩)) := hrS.cell (i := k) (v := m.ptr) (by rw [List.getElem?_map, hm]; rfl)
              have ym1 : w4.cell? ⟨m.g, 1, none⟩ = some (.int .i64 x.tn) := by have h9 := hmI.blk.cell 1; exact (hmp.2.1 ▸ h9)
              have ym4 : w4.cell? ⟨m.g, 4, none⟩ = some (.slice (some ⟨m.gb, 0, none⟩) x.len m.c) := by have h9 : w4.cell? ⟨m.g, 4, none⟩ = some (.slice (some ⟨m.gb, 0, none⟩) m.body.length m.c) := hmI.blk.cell 4; rw [hmp.2.2.2.2.1] at h9; exact h9
              have yg1 : w4.cell? ⟨g, 1, none⟩ = some (.int .i64 s.tn) := SH.out.blk.cell 1
              have yg2 : w4.cell? ⟨g, 2, none⟩ = some (.int .i64 s.bef) := SH.out.blk.cell 2
              clear hxk hm hmd hmp hmm hmI hrS hk
              generalize m.g = mg at *
              generalize m.gb = mgb at *
              generalize m.c = mc at *
              have hxx := HXX.out
              generalize x.len = xl at *
              generalize x.tn = xt at *
              clear HXX
              by_cases hn1 : s.tn < xt
              · skip
                clear hxx
                go_wp2_with fail
                go_quiet (fail)
                have td := (Turned.refl (fun _ => False) w4).drewN nq
                have HO4 := Lib.hid (HO4.out.fresh td)
                have U4 := Lib.hid (U4.out.and_ td)
                have ym1 : (w4.drewN nq).cell? ⟨mg, 1, none⟩ = some (.int .i64 xt) := ym1
                have ym4 : (w4.drewN nq).cell? ⟨mg, 4, none⟩ = some (.slice (some ⟨mgb, 0, none⟩) xl mc) := ym4
                have yg1 : (w4.drewN nq).cell? ⟨g, 1, none⟩ = some (.int .i64 s.tn) := yg1
                have yg2 : (w4.drewN nq).cell? ⟨g, 2, none⟩ = some (.int .i64 s.bef) := yg2
                clear td x5 yk
                generalize w4.drewN nq = w4 at *
                go_wp2_with fail
                go_quiet (fail)
                have td := (Turned.refl (fun _ => False) w4).drewN nq
                have HO := Lib.hid (HO4.out.fresh td)
                have U4 := Lib.hid (U4.out.and_ td)
                clear td ym1 ym4 yg1 yg2
                generalize w4.drewN nq = w4 at *
                have x5 : w4.cell? ⟨L, 5, none⟩ = some (.slice (some ⟨S, 0, none⟩) j cS) := by rw [← HSL.out]; exact HO.out.blk.cell 5
                go_wp2_with fail
                go_ret2
                have TF := Lib.hid (TT.out.and_ U4.out)
                exact HO.out.fin HD.out HLe.out T1.out.size TF.out (fun x hx => (HOK.out x hx).1) (fun x hx => by have h1 := hnum.out x hx; have h2 := HQ.out; omega) ⟨by omega, by omega⟩ (by have := HQ.out; omega)
              · have hb := hxx.resolve_left hn1
                have hn2 : (s.bef != (xl : Int)) = true := by simpa using hb
                have hn3 : (s.bef == (xl : Int)) = false := by simpa using hb
                clear hxx hb
                go_wp2_with fail
                go_quiet (fail)
                have td := (Turned.refl (fun _ => False) w4).drewN nq
                have HO4 := Lib.hid (HO4.out.fresh td)
                have U4 := Lib.hid (U4.out.and_ td)
                have ym1 : (w4.drewN nq).cell? ⟨mg, 1, none⟩ = some (.int .i64 xt) := ym1
                have ym4 : (w4.drewN nq).cell? ⟨mg, 4, none⟩ = some (.slice (some ⟨mgb, 0, none⟩) xl mc) := ym4
                have yg1 : (w4.drewN nq).cell? ⟨g, 1, none⟩ = some (.int .i64 s.tn) := yg1
                have yg2 : (w4.drewN nq).cell? ⟨g, 2, none⟩ = some (.int .i64 s.bef) := yg2
                clear td x5 yk
                generalize w4.drewN nq = w4 at *
                go_wp2_with fail
                go_quiet (fail)
                have td := (Turned.refl (fun _ => False) w4).drewN nq
                have HO := Lib.hid (HO4.out.fresh td)
                have U4 := Lib.hid (U4.out.and_ td)
                clear td ym1 ym4 yg1 yg2
                generalize w4.drewN nq = w4 at *
                have x5 : w4.cell? ⟨L, 5, none⟩ = some (.slice (some ⟨S, 0, none⟩) j cS) := by rw [← HSL.out]; exact HO.out.blk.cell 5
                go_wp2_with fail
                go_ret2
                have TF := Lib.hid (TT.out.and_ U4.out)
                exact HO.out.fin HD.out HLe.out T1.out.size TF.out (fun x hx => (HOK.out x hx).1) (fun x hx => by have h1 := hnum.out x hx; have h2 := HQ.out; omega) ⟨by omega, by omega⟩ (by have := HQ.out; omega)
        · go_wp2_with fail
          go_ret2
          have TF := Lib.hid (TT.out)
          exact HO.out.fin HD.out HLe.out T1.out.size TF.out (fun x hx => (HOK.out x hx).1) (fun x hx => by have h1 := hnum.out x hx; have h2 := HQ.out; omega) ⟨by omega, by omega⟩ (by have := HQ.out; omega)
end Go.Proofs.YtfheikmjjijdpaaDoor

