/-
  ytglojnmcbochaaagreatdoor: laws and walks on the road to LinesTales, joined: WrdF RgI. Conditions stand at each theorem.
-/
import Derived.Test.YtglojnmcbochaaaGreatDoorTSplt
import Derived.Maps.AppendAt
import Derived.Test.YtglojnmcbochaaaGreatDoorTRegB
import Derived.Test.YtglojnmcbochaaaGreatDoorTAskR
import Derived.OrdersIn
namespace Go.Proofs.YtglojnmcbochaaaGreatDoor
open Go.RowKit Go.Maps Go.Shelf
set_option linter.unusedVariables false
set_option linter.unusedSimpArgs false

attribute [local go_sem] Oper.semAt_some

def cutW (w : World) (s : ByteArray) : World := ((w.alloc (.cells #[.string s] 9)).alloc (.cells #[.string ⟨#[32]⟩] 9)).alloc (.cells #[.int .i64 0] 3)
theorem splitSeq_any (s : ByteArray) (w : World) : Calls Tryz.prog 97 #[.string s, .string ⟨#[32]⟩, .int .i64 0] w fun e w' => e = .returned (.func (.func 127) #[] #[.pointer (some ⟨w.heap.size + 1, 0, none⟩), .pointer (some ⟨w.heap.size, 0, none⟩), .pointer (some ⟨w.heap.size + 2, 0, none⟩)]) ∧ w' = cutW w s := by
  go_enter Tryz.func97, Tryz.ntmps97
  go_wp2
  go_ret
  exact ⟨by simp, rfl⟩
theorem splitSeqs_any (s : ByteArray) (w : World) : Calls Tryz.prog 62 #[.string s, .string ⟨#[32]⟩] w fun e w' => e = .returned (.func (.func 127) #[] #[.pointer (some ⟨w.heap.size + 1, 0, none⟩), .pointer (some ⟨w.heap.size, 0, none⟩), .pointer (some ⟨w.heap.size + 2, 0, none⟩)]) ∧ w' = cutW w s := by
  go_enter Tryz.func62, Tryz.ntmps62
  go_wp2_with (go_at_call 97; refine (splitSeq_any s w).mono ?_; rintro e w' ⟨rfl, rfl⟩)
  go_ret
  exact ⟨rfl, rfl⟩
theorem cutW_size (w : World) (s : ByteArray) : (cutW w s).heap.size = w.heap.size + 3 := by simp [cutW]
theorem cutW_turned (w : World) (s : ByteArray) : Turned (fun _ => False) w (cutW w s) := (((Turned.refl _ w).alloc _).alloc _).alloc _
theorem cutW_boxes (w : World) (s : ByteArray) : SpB (cutW w s) (w.heap.size + 1) w.heap.size (w.heap.size + 2) s :=
  ⟨(Blk.new_at _ _ _ (by simp)).alloc _, ((Blk.new w _ _).alloc _).alloc _, Blk.new_at _ _ _ (by simp), by omega, by omega⟩
/-- No room is asked of the wide fence. -/
theorem roundIn_any {n m : Nat} {P : Program} {l l' : Nat} {f : FuncId} {tmps : Array Value} {assign body : Code} {w : World} {R : Ending → World → Prop} (h : RoundIn Fence.wide n P l f tmps assign body w R) : RoundIn (Fence.wide.inRound l') m P l f tmps assign body w R :=
  ⟨h.1, fun c cs _ => h.2 c cs (room_wide _)⟩
def fullBA (x : ByteArray) : Bool := !x.data.toList.isEmpty
theorem fullBA_list {x : ByteArray} (h : fullBA x = true) : (x.toList == ([] : List UInt8)) = false := by
  unfold fullBA at h
  rw [Lib.toList_data]
  cases hx : x.data.toList with
  | nil => rw [hx] at h; cases h
  | cons c l => rfl
theorem fullBA_nil {x : ByteArray} (h : ¬ fullBA x = true) : (x.toList == ([] : List UInt8)) = true := by
  unfold fullBA at h
  rw [Lib.toList_data]
  cases hx : x.data.toList with
  | nil => rfl
  | cons c l => rw [hx] at h; exact absurd rfl h
theorem words_ba (s : ByteArray) : (wordsL s.data.toList).map ba = ((pieces s.data.toList).map ba).filter fullBA := by
  unfold wordsL
  rw [List.filter_map]
  congr 1
theorem words1_gives (n : Nat) (hn : 6 ≤ n) (b : Nat) (s : ByteArray) (w : World) (h : Blk w b 9 #[.string s]) (hs : s.size ≤ 9223372036854775807) :
    Gives n Tryz.prog 61 #[.pointer (some ⟨b, 0, none⟩)] (fun k => k = b) ((wordsL s.data.toList).map ba) w := by
  intro l J W hW hrob hstart hround
  have hb : Blk W b 9 #[.string s] := (hW.block b h.lt (fun e => e)).trans h
  have hbl := hb.lt
  have hb0 : W.cell? ⟨b, 0, none⟩ = some (.string s) := hb.cell 0
  have hrob' := Lib.hid hrob
  have hstart' := Lib.hid hstart
  have hround' := Lib.hid hround
  rw [words_ba] at hround' ⊢
  obtain ⟨ps, hps⟩ : ∃ ps, (pieces s.data.toList).map ba = ps := ⟨_, rfl⟩
  rw [hps] at hround' ⊢
  clear hrob hstart hround hW h
  obtain ⟨Wy, hWy⟩ : ∃ Wy, W.alloc (.cells #[.func (.yield l) #[] #[]] 36) = Wy := ⟨_, rfl⟩
  have hy0 : Blk Wy W.heap.size 36 #[.func (.yield l) #[] #[]] := by rw [← hWy]; exact Blk.new W _ _
  have hyt : Turned (fun _ => False) W Wy := by rw [← hWy]; exact (Turned.refl _ W).alloc _
  have hys : Wy.heap.size = W.heap.size + 1 := by rw [← hWy]; simp
  have hyb : Wy.cell? ⟨b, 0, none⟩ = some (.string s) := by rw [← hWy]; exact (hb.alloc _).cell 0
  have hcall := callsIn_wide (n := n - 1) |>.2 (splitSeqs_any s Wy)
  refine callsIn_of_wp_marks Tryz.func61 rfl trivial ?_ rfl
  simp only [Tryz.ntmps61, List.size_toArray, List.length_cons, List.length_nil, Nat.reduceAdd, Nat.reduceSub, Array.replicate_succ, Array.replicate_zero, List.push_toArray, List.append_toArray, List.nil_append, List.cons_append]
  have h1 : 1 ≤ n := by omega
  gi_wp2_with (refine ⟨trivial, ?_⟩; gi_at_call 62; refine hcall.mono ?_; rintro e w' ⟨rfl, rfl⟩)
  have hbx := cutW_boxes Wy s
  have hcs := cutW_size Wy s
  have hct := cutW_turned Wy s
  have hya : Blk (cutW Wy s) W.heap.size 36 #[.func (.yield l) #[] #[]] := (hct.block _ hy0.lt (fun e => e)).trans hy0
  rw [hys] at hbx hcs
  generalize cutW Wy s = Wa at hbx hcs hct hya ⊢
  have hW1 : W.heap.size + 1 + 3 = Wa.heap.size := hcs.symm
  have hg := split1_gives (n - 1) (by omega) _ _ _ s Wa hbx hs
  rw [hps] at hg
  have hsub : ∀ B k, Wa.heap.size + 2 ≤ B → OwnB (fun k => k = W.heap.size + 1 + 1 ∨ k = W.heap.size + 1 ∨ k = W.heap.size + 1 + 2) Wa.heap.size B k → OwnB (fun k => k = b) W.heap.size B k := fun B k hB h => by
    rcases h with h | h
    · exact .inr (by omega)
    · exact .inr (by omega)
  have hyn : ∀ B, ¬ OwnB (fun k => k = W.heap.size + 1 + 1 ∨ k = W.heap.size + 1 ∨ k = W.heap.size + 1 + 2) Wa.heap.size B W.heap.size := fun B h => by
    rcases h with h | h <;> omega
  refine wpIn_range_gives h1 (gf := 127) (lb := #[.pointer (some ⟨W.heap.size + 1 + 1, 0, none⟩), .pointer (some ⟨W.heap.size + 1, 0, none⟩), .pointer (some ⟨W.heap.size + 1 + 2, 0, none⟩)]) rfl (enters_of Tryz.func127 (by kernel_rfl) rfl)
    hg (fun k hk => by omega)
    (fun B pre A => J B (pre.filter fullBA) A ∧ Blk A W.heap.size 36 #[.func (.yield l) #[] #[]])
    ?rob ?start (fun x => { tmps := #[.func (.yield l) #[] #[], .pointer (some ⟨b, 0, none⟩), .pointer (some ⟨W.heap.size, 0, none⟩), .string x, .string s, .func (.func 127) #[] #[.pointer (some ⟨W.heap.size + 1 + 1, 0, none⟩), .pointer (some ⟨W.heap.size + 1, 0, none⟩), .pointer (some ⟨W.heap.size + 1 + 2, 0, none⟩)], .string x, undef, undef, undef, undef, undef, undef, undef, undef], defers := [] }) ?assign ?body ?done
  case rob =>
    rintro B pre A A' hB ⟨hJ, hy⟩ ht
    exact ⟨hrob'.out B _ A A' (by omega) hJ (ht.mono fun k hk => .inl (hsub B k hB hk)), (ht.block _ hy.lt (hyn B)).trans hy⟩
  case start =>
    intro B A hB hB2 ht
    refine ⟨hstart'.out B A hB ((hyt.and_ hct).trans ht (fun _ e => e.elim) (fun k hk => .inr (by omega))), (ht.block _ hya.lt (by omega)).trans hya⟩
  case assign =>
    intro l2 x W2 K hK
    gi_wp2
    exact hK
  case body =>
    rintro l2 B pre x post W2 hB hBW ⟨hJ, hy⟩ hx
    have hyc : W2.cell? ⟨W.heap.size, 0, none⟩ = some (.func (.yield l) #[] #[]) := hy.cell 0
    have h2n : 1 ≤ n - 1 - 1 := by omega
    by_cases hf : fullBA x = true
    · have hxe : (x.toList == ([] : List UInt8)) = false := fullBA_list hf
      have hx' : ps.filter fullBA = pre.filter fullBA ++ x :: post.filter fullBA := by
        rw [hx, List.filter_append, List.filter_cons, if_pos hf]
      obtain ⟨fn, tmps, assign, body, hyr, hR⟩ := hround'.out B _ x _ W2 (by omega) hBW hJ hx'
      have hR' := roundIn_any (l' := l2) (m := n - 1 - 1 - 1) hR
      gi_wp2
      refine hR'.mono ?_
      rintro e W3 ⟨rfl, hJ3, hk3⟩
      gi_wp2
      refine ⟨hk3.mono fun k hk => .inl fun h => hk (hsub B k hB h), ?_, ?_⟩
      · rw [List.filter_append, List.filter_cons, if_pos hf]
        exact hJ3
      · exact (hk3.block _ hy.lt (fun h => h (.inr (by omega)))).trans hy
    · have hxe : (x.toList == ([] : List UInt8)) = true := fullBA_nil hf
      gi_wp2
      refine ⟨fun _ h => (by cases h), ?_⟩
      gi_wp2
      refine ⟨Turned.refl _ _, ?_, hy⟩
      rw [List.filter_append, List.filter_cons, if_neg hf]
      simpa using hJ
  case done =>
    rintro B W2 hB hBW ⟨hJ, hy⟩ hK
    gi_wp2
    refine ⟨by simp, .inl ⟨_, _, rfl, run_takeDeferred hK, ?_⟩⟩
    refine ⟨_, results_none rfl _ _ _, ⟨_, rfl⟩, B, by omega, by simpa using hBW, hrob'.out B _ _ _ (by omega) hJ (turned_putObj _ _ _ (.inr (by omega)))⟩
end Go.Proofs.YtglojnmcbochaaaGreatDoor

namespace Go.Proofs.YtglojnmcbochaaaGreatDoor
open Go.RowKit Go.Maps
set_option linter.unusedVariables false

section
variable {P : Program} {ops : Array Oper} {Q : Exit → Act → World → Prop} {md : Region.Mode} {S : World → Prop}
theorem rowsIn_of {n l : Nat} {row : String} {args : Array Value} {w : World} {R : Value → World → Prop} (h : Rows P row args w R) : RowsIn (Fence.wide.inRound l) n P row args w R :=
  fun c cs _ => let ⟨v, w', r, s⟩ := h c cs; ⟨v, w', r, stepsIn_wide.2 s⟩
theorem oper_in {l n : Nat} {o : Oper} {a : Act} {w : World} {K : Act → World → Prop} (hd : ∀ c, o.op ≠ .defer c) (h : o.wp P a w K Q) : o.wpIn (Fence.wide.inRound l) n P a w K Q := by
  refine ⟨fun f _ => trivial, ?_⟩
  unfold Oper.wp at h
  rw [show (Fence.wide.inRound l).round = some l from rfl, Oper.semAt_some l _ _ hd]
  have hz : ∀ {p : Prop}, (Fence.wide.inRound l).depth.isSome = true → p := fun h => by cases h
  cases hr : (execOp a.eval o).run P w with
  | ok x w' =>
    rw [hr] at h
    cases x with
    | value v => exact h
    | skip => exact h
    | «defer» d => exact h
    | enter f args =>
      have h' : CallsIn Fence.wide (n - 1) P f args w' _ := callsIn_wide.2 h
      exact ⟨hz, h'⟩
    | row r args => exact ⟨hz, rowsIn_of h⟩
    | _ => exact h.elim
  | halt x w' =>
    rw [hr] at h
    cases x <;> exact h
theorem any_in {l n : Nat} (hd : ∀ (i : Nat) (o : Oper), ops[i]? = some o → ∀ c, o.op ≠ .defer c) (hL : ¬ LetsOut Q) : ∀ (fuel : Nat) (listed : Array Bool) (a : Act) (w : World), wpAny P md ops Q fuel listed a w → wpAnyIn (Fence.wide.inRound l) n P md ops Q fuel listed a w
  | 0, _, _, _, h => h
  | fuel + 1, listed, a, w, h => ⟨h.1, fun i hi => by
    have h2 := h.2 i hi
    unfold wpOp at h2
    unfold wpOpIn
    cases ho : ops[i]? with
    | none => rw [ho] at h2; exact any_in hd hL fuel _ _ _ h2
    | some o =>
      rw [ho] at h2
      simp only at h2 ⊢
      split
      · rename_i hw
        rw [if_pos hw] at h2
        rcases h2 with h2 | h2
        · exact oper_in (hd i o ho) (Oper.wp_mono (fun a' w' h' => any_in hd hL fuel _ _ _ h') h2)
        · exact absurd h2.2 hL
      · rename_i hw
        rw [if_neg hw] at h2
        exact ⟨fun _ _ => trivial, any_in hd hL fuel _ _ _ h2⟩⟩
def noDefer (l : List Oper) : Bool := l.all fun o => match o.op with
  | .defer _ => false
  | _ => true
theorem noDefer_spec {l : List Oper} (h : noDefer l = true) (i : Nat) (o : Oper) (ho : l.toArray[i]? = some o) : ∀ c, o.op ≠ .defer c := by
  intro c e
  have hm : o ∈ l := by
    have : l[i]? = some o := by simpa using ho
    exact List.mem_of_getElem? this
  have := (List.all_eq_true.1 h) o hm
  rw [e] at this
  cases this
theorem wpIn_region_ts {id l0 n : Nat} {a : Act} {w : World} {l : List Oper} (S : World → Prop) (t : Ts Nat) (hm : P.follows .mixedOrders = true) (hB : regTsB l t = true) (hD : noDefer l = true) (hL : ¬ LetsOut Q)
    (hQ : ∀ c a d v w, Q (.panic c) (Act.put a (some d) v) w → Q (.panic c) a w)
    (hh : wpTs P l.toArray Q S (t.map fun i => l[i]?) a w.drew) : (Code.region id l.toArray true).wpIn (Fence.wide.inRound l0) n P Q a w := by
  simp only [regTsB, Bool.and_eq_true, decide_eq_true_eq] at hB
  obtain ⟨⟨h1, h3⟩, h4⟩ := hB
  refine wpIn_region_any hm (any_in (noDefer_spec hD) hL _ _ _ _ (wpAny_of_held (S := S) _ _ _ _ ?_))
  rw [← h3]
  have h5 : wpAnyH P .any l.toArray Q S t.len (Array.replicate l.toArray.size false) a w.drew := wpAnyH_ts h1 hQ t _ a w.drew h4 (by simpa using hh)
  rw [h3] at h5 ⊢
  exact h5
end
end Go.Proofs.YtglojnmcbochaaaGreatDoor

