/-
  ytijmfglgeaaoaaagreatdoor: laws and walks on the road to AskNumbers, joined: AskU AskW AskD. Conditions stand at each theorem.
-/
import Derived.Test.YtijmfglgeaaoaaaGreatDoorQAskR
import Derived.Test.YtijmfglgeaaoaaaGreatDoorQAskS
import Derived.IntWalk
namespace Go.Proofs.YtijmfglgeaaoaaaGreatDoor
open Go.RowKit Go.Maps
set_option linter.unusedVariables false
set_option linter.unusedSimpArgs false

/-- The box bo holds zs, and ys behind it. -/
def OutAt (bo : Nat) (A : Option Addr) (zs ys : List Int) (w w' : World) : Prop :=
  ∃ A' c', Blk w' bo 22 #[.slice A' (zs.length + ys.length) c'] ∧ OwnV w' A' (zs.length + ys.length) c' (zs ++ ys) ∧ (∀ g, A' = some ⟨g, 0, none⟩ → A = some ⟨g, 0, none⟩ ∨ w.heap.size ≤ g) ∧ Turned (fun i => i = bo ∨ A = some ⟨i, 0, none⟩) w w'
def OutPost (bo : Nat) (A : Option Addr) (zs ys : List Int) (w : World) (e : Ending) (w' : World) : Prop := e = .returned (.tuple #[]) ∧ OutAt bo A zs ys w w'
theorem OutAt.of_drew {bo : Nat} {A : Option Addr} {zs ys : List Int} {w w' : World} (h : OutAt bo A zs ys w.drew w') : OutAt bo A zs ys w w' := by
  obtain ⟨A', c', h1, h2, h3, h4⟩ := h
  exact ⟨A', c', h1, h2, h3, h4.of_drewN (n := 1)⟩
theorem OutAt.of {bo : Nat} {A A4 : Option Addr} {c c4 : Nat} {zs ys : List Int} {w w2 w4 : World} (hb : Blk w bo 22 #[.slice A zs.length c]) (ho : OwnV w A zs.length c zs) (t2 : Turned (fun _ => False) w w2) {m : Nat} (ho4 : OwnV w4 A4 (zs.length + m) c4 (zs ++ ys)) (hor : App2 w2 w4 A A4 c c4) :
    OutAt bo A zs ys w (w4.setCell ⟨bo, 0, none⟩ (.slice A4 (zs.length + m) c4)) := by
  have hm : m = ys.length := by
    have := ho4.len
    rw [List.length_append] at this
    omega
  subst hm
  have hne : A ≠ some ⟨bo, 0, none⟩ := fun e => ho.blk hb (by decide) e rfl
  have hb4 : Blk w4 bo 22 #[.slice A zs.length c] := (hb.turned t2 (fun e => e)).turned hor.turned hne
  have hne4 : A4 ≠ some ⟨bo, 0, none⟩ := fun e => ho4.blk hb4 (by decide) e rfl
  refine ⟨A4, c4, ?_, ho4.far hne4 0 _, fun g e => ?_, ?_⟩
  · have := hb4.set_ 0 (.slice A4 (zs.length + ys.length) c4)
    simp only [List.setIfInBounds_toArray, List.set_cons_zero] at this
    exact this
  · rcases hor.at_ (s := w.heap.size) t2.size with ⟨e1, _⟩ | ⟨g', e1, hg⟩
    · rw [e1] at e; exact .inl e
    · rw [e1] at e; injection e with e; injection e with e; exact .inr (by omega)
  · exact ((t2.mono (fun _ e => e.elim)).trans (W := fun i => i = bo ∨ A = some ⟨i, 0, none⟩) hor.turned (fun _ e => e) (fun i e => .inl (.inr e))).setCell (.inl (.inl rfl)) _
set_option maxRecDepth 100000 in
set_option maxHeartbeats 1000000 in
theorem put1_any (bo : Nat) (A : Option Addr) (c : Nat) (zs : List Int) (n : Int) (k : Nat) (w : World) (hb : Blk w bo 22 #[.slice A zs.length c]) (ho : OwnV w A zs.length c zs) (hk1 : 1 ≤ k) (hk : k ≤ 8) (hl : zs.length ≤ 1000000) :
    Calls Tryz.prog 44 #[.int .i64 n, .int .i64 k, .pointer (some ⟨bo, 0, none⟩)] w (OutPost bo A zs (be k n) w) := by
  have mixed : Tryz.prog.follows .mixedOrders = true := by kernel_rfl
  have B0 := Lib.hid (hb.drew)
  have O0 := Lib.hid (ho.turned ((Turned.refl (fun _ => False) w).drew) (fun _ _ e => e))
  have hbl := hb.lt
  clear hb ho
  go_enter Tryz.func44, Tryz.ntmps44
  go_wp2_with fail
  refine wp_region_ts (fun _ => True) (tsT [1, 2] (.two 0 3 (tsF [3, 4, 5] .nil) (tsF [0, 4, 5] .nil))) mixed (by kernel_rfl) (fun _ _ _ _ _ h => h) ?_
  simp only [tsT, tsF, List.foldr_cons, List.foldr_nil, Ts.map, List.getElem?_cons_zero, List.getElem?_cons_succ]
  iterate 2 (refine ts_take (v := ?_) trivial rfl (fun w' hw => ?_) ?_; rotate_left; (focus (go_simp; (try with_reducible rfl); done)); try simp only [Act.put, List.setIfInBounds_toArray, List.set_cons_zero, List.set_cons_succ])
  obtain ⟨wd, hwd⟩ : ∃ wd, wd = w.drew := ⟨_, rfl⟩
  rw [← hwd] at B0 O0 ⊢
  have hfin := Lib.hid (fun (w' : World) (h : OutAt bo A zs (be k n) wd w') => (show OutAt bo A zs (be k n) w w' from by rw [hwd] at h; exact h.of_drew))
  clear hwd
  refine ts_two ?_ ?_
  · refine now_run rfl (fun K hK => ?_)
    have x0 := B0.out.cell 0
    go_simp
    refine hK.out _ _ trivial ?_
    clear hK K
    clear x0
    refine ts_run rfl (fun K hK => ?_)
    go_simp
    refine (anum_any n k wd hk1 hk).mono ?_
    rintro e w2 ⟨A2, c2, rfl, o2, g2, t2'⟩
    have O2 := Lib.hid o2
    have t2 := Lib.hid t2'
    clear o2 g2 t2'
    refine hK.out _ _ trivial ?_
    clear hK K
    refine ts_run rfl (fun K hK => ?_)
    refine wp_appB (.tmp 5) (.tmp 8) rfl (O0.out.turned t2.out (fun _ _ e => e)) O2.out (by rw [be_length]; omega) (by rw [be_length]; omega) rfl rfl ?_
    intro A4 c4 w4 ho4 hor4
    have hx4 := (B0.out.turned t2.out (fun e => e)).turned hor4.turned (fun e => (O0.out.blk B0.out (by decide) e) rfl)
    have x4 := hx4.cell 0
    have f4 := hx4.frozen 0
    have OA := Lib.hid (OutAt.of B0.out O0.out t2.out ho4 hor4)
    clear hx4 ho4 hor4
    refine hK.out _ _ trivial ?_
    clear hK K
    try simp only [Act.put, List.setIfInBounds_toArray, List.set_cons_zero, List.set_cons_succ]
    refine ts_run rfl (fun K hK => ?_)
    go_simp
    refine hK.out _ _ trivial ?_
    clear hK K
    refine ts_nil ?_
    go_wp2_with fail
    go_end0
    exact ⟨rfl, hfin.out _ OA.out⟩
  · refine now_run rfl (fun K hK => ?_)
    go_simp
    refine (anum_any n k wd hk1 hk).mono ?_
    rintro e w2 ⟨A2, c2, rfl, o2, g2, t2'⟩
    have O2 := Lib.hid o2
    have t2 := Lib.hid t2'
    clear o2 g2 t2'
    refine hK.out _ _ trivial ?_
    clear hK K
    have x0 := (B0.out.turned t2.out (fun e => e)).cell 0
    refine ts_run rfl (fun K hK => ?_)
    go_simp
    refine hK.out _ _ trivial ?_
    clear hK K
    clear x0
    refine ts_run rfl (fun K hK => ?_)
    refine wp_appB (.tmp 5) (.tmp 8) rfl (O0.out.turned t2.out (fun _ _ e => e)) O2.out (by rw [be_length]; omega) (by rw [be_length]; omega) rfl rfl ?_
    intro A4 c4 w4 ho4 hor4
    have hx4 := (B0.out.turned t2.out (fun e => e)).turned hor4.turned (fun e => (O0.out.blk B0.out (by decide) e) rfl)
    have x4 := hx4.cell 0
    have f4 := hx4.frozen 0
    have OA := Lib.hid (OutAt.of B0.out O0.out t2.out ho4 hor4)
    clear hx4 ho4 hor4
    refine hK.out _ _ trivial ?_
    clear hK K
    try simp only [Act.put, List.setIfInBounds_toArray, List.set_cons_zero, List.set_cons_succ]
    refine ts_run rfl (fun K hK => ?_)
    go_simp
    refine hK.out _ _ trivial ?_
    clear hK K
    refine ts_nil ?_
    go_wp2_with fail
    go_end0
    exact ⟨rfl, hfin.out _ OA.out⟩
end Go.Proofs.YtijmfglgeaaoaaaGreatDoor

namespace Go.Proofs.YtijmfglgeaaoaaaGreatDoor
open Go.RowKit Go.Maps
set_option linter.unusedVariables false
set_option linter.unusedSimpArgs false

theorem code_put_any (x : List UInt8) (w : World) (h : strOk x) : Calls Tryz.prog 45 #[.string ⟨x.toArray⟩] w (PutPost (putL x) w) := put_any (baOf x) w (by
  show x.toArray.size ≤ _
  unfold strOk at h
  simpa using h)
theorem putL_code {x : List UInt8} (h : codeL x = true) : 0 < (putL x).length ∧ (putL x).length ≤ 13 := by
  rw [putL_ok (codeL_putOk h), List.length_cons, ints_length]
  have := codeL_len h
  omega
theorem flat_len {α : Type} (g : α → List Int) (b : Nat) : ∀ l : List α, (∀ x ∈ l, (g x).length ≤ b) → (l.flatMap g).length ≤ l.length * b
  | [], _ => by simp
  | x :: l, h => by
    have h1 := h x (by simp)
    have h2 := flat_len g b l (fun y hy => h y (by simp [hy]))
    rw [List.flatMap_cons, List.length_append, List.length_cons, Nat.add_mul]
    omega
def encP (p : List UInt8 × Int) : List Int := putL p.1 ++ be 8 p.2
theorem encF_len {a : AskV} {c : Nat} (h : okF a c = true) : (encF a c).length ≤ 200 := by
  unfold encF
  by_cases h1 : c = 105
  · subst h1; rw [if_pos rfl]; have := (putL_code (show codeL a.item = true from h)).2; omega
  rw [if_neg h1]
  by_cases h2 : c = 113
  · subst h2; rw [if_pos rfl, be_length]; omega
  rw [if_neg h2]
  by_cases h3 : c = 100
  · subst h3; rw [if_pos rfl, be_length]; omega
  rw [if_neg h3]
  by_cases h4 : c = 108
  · subst h4; rw [if_pos rfl, be_length]; omega
  rw [if_neg h4]
  by_cases h5 : c = 114
  · subst h5; rw [if_pos rfl, be_length]; omega
  rw [if_neg h5]
  by_cases h6 : c = 116
  · subst h6; rw [if_pos rfl, be_length]; omega
  rw [if_neg h6]
  by_cases h7 : c = 110
  · subst h7; rw [if_pos rfl, be_length]; omega
  rw [if_neg h7]
  by_cases h8 : c = 112
  · subst h8
    rw [if_pos rfl]
    have hp := partsB_mem (show partsB a.parts = true from h)
    have := flat_len (fun p : List UInt8 × Int => putL p.1 ++ be 8 p.2) 21 a.parts (fun p hpm => by
      have := (putL_code (hp.2.2 p hpm).1).2
      rw [List.length_append, be_length]
      omega)
    rw [List.length_append, be_length]
    omega
  rw [if_neg h8]
  by_cases h9 : c = 111
  · subst h9
    rw [if_pos rfl]
    have hp := othersB_mem (show othersB a.others a.item = true from h)
    have := flat_len putL 13 a.others (fun p hpm => (putL_code (hp.2 p hpm)).2)
    rw [List.length_append, be_length]
    omega
  rw [if_neg h9]
  simp
def headA (a : AskV) : List Int := be 1 a.kind ++ be 8 a.request
theorem bodyA_eq {a : AskV} {f : List Nat} (h : fieldsK a.kind = some f) : bodyA a = headA a ++ f.flatMap (encF a) := by
  unfold bodyA headA
  rw [h, List.append_assoc]
  rfl
theorem so_far_len {a : AskV} {f : List Nat} (hf : f.length ≤ 4) (h : ∀ c ∈ f, okF a c = true) (p : Nat) : (headA a ++ (f.take p).flatMap (encF a)).length ≤ 1000 := by
  have h1 := flat_len (encF a) 200 (f.take p) (fun c hc => encF_len (h c (List.mem_of_mem_take hc)))
  have h2 : (f.take p).length ≤ 4 := by rw [List.length_take]; omega
  unfold headA
  rw [List.length_append, List.length_append, be_length, be_length]
  omega
/-- What Put's loop keeps. -/
structure PutW (a : AskV) (S : AskS) (f : List Nat) (w : World) (ba bo bi pos : Nat) (A : Option Addr) (c : Nat) (zs : List Int) (W : World) : Prop where
  aa : AskAt W ba a S
  box : Blk W bo 22 #[.slice A zs.length c]
  own : OwnV W A zs.length c zs
  it : W.heap[bi]? = some (.stringIter (fBA f) pos)
  ge : ∀ g, A = some ⟨g, 0, none⟩ → w.heap.size ≤ g
  t : Turned (fun _ => False) w W
section
variable {a : AskV} {S : AskS} {f : List Nat} {w W W' : World} {ba bo bi pos c : Nat} {A : Option Addr} {zs ys : List Int}
theorem PutW.fresh (h : PutW a S f w ba bo bi pos A c zs W) (ht : Turned (fun _ => False) W W') : PutW a S f w ba bo bi pos A c zs W' :=
  ⟨h.aa.fresh ht, h.box.turned ht (fun e => e), h.own.turned ht (fun _ _ e => e), (ht.block bi (heap_lt h.it) (fun e => e)).trans h.it, h.ge, h.t.and_ ht⟩
theorem PutW.iter (h : PutW a S f w ba bo bi pos A c zs W) (h3 : w.heap.size ≤ bi) : PutW a S f w ba bo bi (pos + 1) A c zs (W.iterAt bi (fBA f) (pos + 1)) := by
  have hno : ∀ (g : Nat) (T : TypeId) (cs : Array Value), Blk W g T cs → g ≠ bi := fun g T cs hb e => by
    subst e
    unfold Blk at hb
    rw [h.it] at hb
    cases hb
  have hA : ∀ g, A = some ⟨g, 0, none⟩ → g ≠ bi := fun g e => by
    have ho := h.own
    rw [e] at ho
    obtain ⟨cs, hb, _⟩ := ho.row.row
    exact hno g _ _ hb
  have tI : Turned (· = bi) W (W.iterAt bi (fBA f) (pos + 1)) := ⟨rfl, rfl, rfl, by simp [World.iterAt], fun i hi hn => by
    simp only [World.iterAt]
    rw [Array.getElem?_setIfInBounds_ne (fun e => hn e.symm)]⟩
  exact ⟨Blk.iter h.aa (hno _ _ _ h.aa) _ _, Blk.iter h.box (hno _ _ _ h.box) _ _, h.own.turned tI (fun g e e2 => hA g e e2), Lib.iterAt_heap _ _ _ _ _ h.it, h.ge, h.t.iterAt h3 _ _⟩
theorem PutW.out (h : PutW a S f w ba bo bi pos A c zs W) (hbo : w.heap.size ≤ bo) (ho : OutAt bo A zs ys W W') : ∃ A' c', PutW a S f w ba bo bi pos A' c' (zs ++ ys) W' := by
  obtain ⟨A', c', h1, h2, h3, h4⟩ := ho
  have hbb := h.box
  have hoo := h.own
  have hl : zs.length + ys.length = (zs ++ ys).length := by rw [List.length_append]
  rw [hl] at h1 h2
  have n1 : ba ≠ bo := Blk.ne_ h.aa hbb (by decide)
  have n2 : ∀ g, A = some ⟨g, 0, none⟩ → g ≠ ba := fun g e => hoo.blk h.aa (by decide) e
  have n3 : bi ≠ bo := fun e => by
    subst e
    have := h.it
    unfold Blk at hbb
    rw [hbb] at this
    cases this
  have n4 : A ≠ some ⟨bi, 0, none⟩ := fun e => by
    rw [e] at hoo
    obtain ⟨cs, hb, _⟩ := hoo.row.row
    have := h.it
    unfold Blk at hb
    rw [hb] at this
    cases this
  refine ⟨A', c', h.aa.turned h4 (fun e => ?_), h1, h2, (h4.block bi (heap_lt h.it) (fun e => ?_)).trans h.it, fun g e => ?_, h.t.trans h4 (fun _ e => e) (fun i e => ?_)⟩
  · rcases e with e | e
    · exact n1 e
    · exact n2 _ e rfl
  · rcases e with e | e
    · exact n3 e
    · exact n4 e
  · rcases h3 g e with e2 | e2
    · exact h.ge g e2
    · exact Nat.le_trans h.t.size e2
  · rcases e with e | e
    · subst e; exact .inr hbo
    · exact .inr (h.ge i e)
theorem PutW.pos_ (h : PutW a S f w ba bo bi pos A c zs W) : W.iterPos bi = pos := by simp [World.iterPos, h.it]
end
def PutRel (a : AskV) (S : AskS) (f : List Nat) (w : World) (ba bo bi : Nat) (wr : World) : Prop :=
  ∃ (pos : Nat) (A : Option Addr) (c : Nat), pos ≤ f.length ∧ PutW a S f w ba bo bi pos A c (headA a ++ (f.take pos).flatMap (encF a)) wr
theorem PutRel.step {a : AskV} {S : AskS} {f : List Nat} {w W : World} {ba bo bi pos k c : Nat} {A : Option Addr} {zs : List Int} (hp : pos < f.length) (ht : f.take (pos + 1) = f.take pos ++ [k]) (hz : zs = (headA a ++ (f.take pos).flatMap (encF a)) ++ encF a k) (h : PutW a S f w ba bo bi (pos + 1) A c zs W) :
    PutRel a S f w ba bo bi W ∧ W.iterPos bi = pos + 1 := by
  refine ⟨⟨pos + 1, A, c, hp, ?_⟩, h.pos_⟩
  rw [ht, List.flatMap_append, ← List.append_assoc]
  rw [hz] at h
  simpa using h
theorem PutRel.outs {a : AskV} {S : AskS} {f : List Nat} {w W W' : World} {ba bo bi pos k c : Nat} {A : Option Addr} (hp : pos < f.length) (ht : f.take (pos + 1) = f.take pos ++ [k]) (hbo : w.heap.size ≤ bo) (h : PutW a S f w ba bo bi (pos + 1) A c (headA a ++ (f.take pos).flatMap (encF a)) W) (ho : OutAt bo A (headA a ++ (f.take pos).flatMap (encF a)) (encF a k) W W') :
    PutRel a S f w ba bo bi W' ∧ W'.iterPos bi = pos + 1 := by
  obtain ⟨A', c', h'⟩ := h.out hbo ho
  exact PutRel.step hp ht rfl h'
def InRel (a : AskV) (S : AskS) (f : List Nat) (w : World) (ba bo bi pos n : Nat) (z : Nat → List Int) (i : Value) (wr : World) : Prop :=
  ∃ (j : Nat) (A : Option Addr) (c : Nat), j ≤ n ∧ i = .int .i64 j ∧ PutW a S f w ba bo bi pos A c (z j) wr
def APut (a : AskV) (w : World) (e : Ending) (w' : World) : Prop :=
  if rightA a then ∃ A c, e = .returned (.tuple #[.slice A (putA a).length c, .int .i64 0]) ∧ OwnV w' A (putA a).length c (putA a) ∧ (∀ g, A = some ⟨g, 0, none⟩ → w.heap.size ≤ g) ∧ Turned (fun _ => False) w w'
  else e = .returned (.tuple #[.slice none 0 0, .int .i64 2]) ∧ Turned (fun _ => False) w w'
end Go.Proofs.YtijmfglgeaaoaaaGreatDoor

namespace Go.Proofs.YtijmfglgeaaoaaaGreatDoor
open Go.RowKit Go.Maps
set_option linter.unusedVariables false
set_option linter.unusedSimpArgs false

theorem cell_one_new (w : World) (T : TypeId) (v : Value) : ∀ j u, ([v] : List Value)[j]? = some u → (w.alloc (.cells #[v] T)).cell? ((⟨w.heap.size, 0, none⟩ : Addr).add j) = some u := news_new1 w T v
/-- What an append to one's own, or to nil, leaves. -/
theorem app_step {w0 wr w2 w4 : World} {A A4 : Option Addr} {c c4 : Nat} (ht : Turned (fun _ => False) w0 wr) (hA : ∀ g, A = some ⟨g, 0, none⟩ → w0.heap.size ≤ g) (t2 : Turned (fun _ => False) wr w2)
    (hor : (A4 = A ∧ c4 = c ∧ A ≠ none ∧ Turned (fun g => A = some ⟨g, 0, none⟩) w2 w4) ∨ (A4 = some ⟨w2.heap.size, 0, none⟩ ∧ Turned (fun _ => False) w2 w4)) : Turned (fun _ => False) w0 w4 ∧ ∀ g, A4 = some ⟨g, 0, none⟩ → w0.heap.size ≤ g := by
  have t02 := ht.and_ t2
  rcases hor with ⟨rfl, _, _, h4⟩ | ⟨rfl, h4⟩
  · exact ⟨t02.trans h4 (fun _ e => e) (fun g e => .inr (hA g e)), hA⟩
  · exact ⟨t02.trans h4 (fun _ e => e) (fun _ e => e.elim), fun g e => by injection e with e; injection e with e; have := t02.size; omega⟩
theorem u64_byte (n : Int) (m : Nat) (hm : m ≤ 7) : n % 18446744073709551616 / 2 ^ (8 * m) % 256 = n / 2 ^ (8 * m) % 256 := by
  have : m = 0 ∨ m = 1 ∨ m = 2 ∨ m = 3 ∨ m = 4 ∨ m = 5 ∨ m = 6 ∨ m = 7 := by omega
  rcases this with rfl | rfl | rfl | rfl | rfl | rfl | rfl | rfl <;> simp only [Nat.mul_zero, Nat.reduceMul, Int.reducePow] <;> omega
def FNumRel (n : Int) (k : Nat) (w : World) (v i : Value) (wr : World) : Prop :=
  ∃ (t : Nat) (A : Option Addr) (c : Nat), t ≤ k ∧ i = .int .i64 ((k : Int) - 1 - (t : Int)) ∧ v = .slice A t c ∧ OwnV wr A t c (beTo k n t) ∧ (∀ g, A = some ⟨g, 0, none⟩ → w.heap.size ≤ g) ∧ Turned (fun _ => False) w wr
set_option maxRecDepth 100000 in
set_option maxHeartbeats 1000000 in
theorem fnumber13_any (n : Int) (k : Nat) (w : World) (hk : k ≤ 8) (hn : I64 n) : Calls Tryz.prog 90 #[.int .i64 n, .int .i64 k] w (PutPost (be k n) w) := by
  unfold I64 at hn
  go_enter Tryz.func90, Tryz.ntmps90
  go_wp2_with fail
  go_loopw [5, 6] (fun v i wr => FNumRel n k w v i wr) (fun _ i _ => (intOf i + 1).toNat)
  case atStart => exact ⟨0, none, 0, Nat.zero_le _, by simp, rfl, OwnV.nil _, (fun g e => by cases e), Turned.refl _ _⟩
  case round =>
    obtain ⟨t, A, c, ht, rfl, rfl, ho, hg, hT⟩ := hrel
    have ho' := Lib.hid ho
    have hg' := Lib.hid hg
    have hT' := Lib.hid hT
    clear ho hg hT
    by_cases hlt : t < k
    · obtain ⟨m, hm⟩ : ∃ m : Nat, m = k - 1 - t := ⟨_, rfl⟩
      have hmi : (k : Int) - 1 - (t : Int) = (m : Int) := by omega
      have hm7 : m ≤ 7 := by omega
      have hx := Lib.hid (show beAt k n t = n / 2 ^ (8 * m) % 256 by unfold beAt; rw [hm])
      rw [hmi]
      clear hm
      have hm0 : (0 : Int) ≤ (m : Int) := by omega
      have h8 : (0 : Int) ≤ 8 * (m : Int) := by omega
      have h8b : 8 * (m : Int) ≤ 56 := by omega
      have hw8 : IntKind.i64.wrap (8 * (m : Int)) = 8 * (m : Int) := IntWalk.i64_in _ (by omega)
      have hu8 : IntKind.u64.wrap (8 * (m : Int)) = 8 * (m : Int) := IntWalk.u64_in _ (by omega)
      go_wp2_with (at_builtin; refine wpList_app2 bytT rfl (.tmp 13) (.tmp 21) rfl (ho'.out.turned ((Turned.refl (fun _ => False) wr).alloc _) (fun _ _ e => e)) ⟨wr.heap.size, 0, none⟩ 1 1 [IntKind.u64.wrap n / 2 ^ (8 * m) % 256] rfl (cell_one_new _ _ _) (by omega) (by omega) rfl rfl ?_; intro A4 c4 w4 ho4 hor4)
      rw [show IntKind.u64.wrap n / 2 ^ (8 * m) % 256 = beAt k n t by rw [hx.out, ← u64_byte n m hm7, IntKind.wrap_u64]] at ho4
      obtain ⟨T4, G4⟩ := app_step hT'.out hg'.out ((Turned.refl (fun _ => False) wr).alloc _) hor4
      have hR := Lib.hid (show FNumRel n k w (.slice A4 (t + 1) c4) (.int .i64 ((k : Int) - 1 - ((t + 1 : Nat) : Int))) w4 from ⟨t + 1, A4, c4, hlt, rfl, rfl, by rw [beTo_succ]; exact ho4, G4, T4⟩)
      have hmv := Lib.hid (show Value.int .i64 ((m : Int) - 1) = .int .i64 ((k : Int) - 1 - ((t + 1 : Nat) : Int)) by congr 1; omega)
      clear ho4 hor4 T4 G4
      go_roundw
      case rel =>
        first
        | (rw [hmv.out]; exact hR.out)
        | ((repeat apply Exists.intro); exact ⟨by rw [hmv.out]; exact hR.out, rfl⟩)
      case measure => simp [intOf] <;> omega
    · obtain rfl : k = t := by omega
      have hneg : (k : Int) - 1 - (k : Int) = -1 := by omega
      rw [hneg]
      go_wp2_with fail
      go_ret
      have hl : (be k n).length = k := be_length k n
      exact ⟨A, c, by rw [hl]; rfl, by rw [hl]; exact ho'.out, hg'.out, hT'.out⟩
/-- append of bytes that lie in memory of their own. -/
theorem wpList_appB {w : World} {A A2 : Option Addr} {n c m c2 : Nat} {zs ys : List Int} {ops : Array Oper} {rest : List Oper} {o : Oper} {a : Act} {Q : Exit → Act → World → Prop} (hgd : o.guard = none) (s x : Operand) (ho : o.op = .call { callee := .builtin .append, args := #[s, x], argTypes := #[22, 22] })
    (h : OwnV w A n c zs) (h2 : OwnV w A2 m c2 ys) (hm : 0 < m) (hb : n + m ≤ 140737488355328) (hs : a.eval s = .slice A n c) (hx : a.eval x = .slice A2 m c2)
    (hC : ∀ A' c' w', OwnV w' A' (n + m) c' (zs ++ ys) → App2 w w' A A' c c' → wpList Tryz.prog ops Q rest (a.put o.dst (.slice A' (n + m) c')) w') : wpList Tryz.prog ops Q (o :: rest) a w := by
  obtain ⟨g, rfl, hr⟩ := h2.some_ hm
  exact wpList_app2 bytT hgd s x ho h ⟨g, 0, none⟩ m c2 ys h2.len (news_of_row hr) hm hb hs hx (fun A' c' w' h1 h3 => hC A' c' w' h1 h3)
structure PuW (a : AskV) (S : AskS) (w : World) (ba : Nat) (A : Option Addr) (c : Nat) (zs : List Int) (W : World) : Prop where
  aa : AskAt W ba a S
  own : OwnV W A zs.length c zs
  ge : ∀ g, A = some ⟨g, 0, none⟩ → w.heap.size ≤ g
  t : Turned (fun _ => False) w W
section
variable {a : AskV} {S : AskS} {w W W2 W4 : World} {ba c c4 m : Nat} {A A4 : Option Addr} {zs ys : List Int}
theorem PuW.fresh (h : PuW a S w ba A c zs W) (ht : Turned (fun _ => False) W W2) : PuW a S w ba A c zs W2 :=
  ⟨h.aa.fresh ht, h.own.turned ht (fun _ _ e => e), h.ge, h.t.trans ht (fun _ e => e) (fun _ e => e.elim)⟩
theorem PuW.app (h : PuW a S w ba A c zs W) (ho : OwnV W4 A4 (zs.length + m) c4 (zs ++ ys)) (hor : App2 W W4 A A4 c c4) : PuW a S w ba A4 c4 (zs ++ ys) W4 := by
  have hm := hor.mine h.t h.ge
  have hl : zs.length + m = (zs ++ ys).length := by have := ho.len; omega
  rw [hl] at ho
  exact ⟨h.aa.turned hor.turned (fun e => h.own.blk h.aa (by decide) e rfl), ho, hm.2, hm.1⟩
end
def PuRel (a : AskV) (S : AskS) (f : List Nat) (w : World) (ba : Nat) (v i : Value) (wr : World) : Prop :=
  ∃ (pos : Nat) (A : Option Addr) (c : Nat), pos ≤ f.length ∧ i = .int .i64 pos ∧ v = .slice A (headA a ++ (f.take pos).flatMap (encF a)).length c ∧ PuW a S w ba A c (headA a ++ (f.take pos).flatMap (encF a)) wr
theorem PuRel.step {a : AskV} {S : AskS} {f : List Nat} {w W : World} {ba pos k c : Nat} {A : Option Addr} {zs : List Int} (hp : pos < f.length) (ht : f.take (pos + 1) = f.take pos ++ [k]) (hz : zs = (headA a ++ (f.take pos).flatMap (encF a)) ++ encF a k) (h : PuW a S w ba A c zs W) :
    PuRel a S f w ba (.slice A zs.length c) (.int .i64 ((pos + 1 : Nat) : Int)) W := by
  have e : headA a ++ (f.take (pos + 1)).flatMap (encF a) = zs := by
    rw [hz, ht, List.flatMap_append, List.append_assoc]
    simp
  exact ⟨pos + 1, A, c, hp, rfl, by rw [e], by rw [e]; exact h⟩
def PuIn (a : AskV) (S : AskS) (w : World) (ba n : Nat) (z : Nat → List Int) (v i : Value) (wr : World) : Prop :=
  ∃ (j : Nat) (A : Option Addr) (c : Nat), j ≤ n ∧ i = .int .i64 j ∧ v = .slice A (z j).length c ∧ PuW a S w ba A c (z j) wr
theorem be1_mod (k : Int) : be 1 k = [k % 256] := by
  have e : be 1 k = [k / 2 ^ (8 * (1 - 1 - 0)) % 256] := rfl
  rw [e]
  simp
end Go.Proofs.YtijmfglgeaaoaaaGreatDoor

