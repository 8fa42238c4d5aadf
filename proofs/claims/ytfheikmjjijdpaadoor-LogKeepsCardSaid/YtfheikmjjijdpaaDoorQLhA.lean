/-
  ytfheikmjjijdpaadoor: laws and walks on the road to LogKeeps, joined: LgE LhA. Conditions stand at each theorem.
-/
import Derived.Test.YtfheikmjjijdpaaDoorQLgP
namespace Go.Proofs.YtfheikmjjijdpaaDoor
open Go.RowKit Go.Maps
set_option linter.unusedVariables false
set_option linter.unusedSimpArgs false

theorem ptrT : EltT Tryd.prog 62 68 1 8 (.pointer none) := ⟨Tryd.underlying62, by kernel_rfl, rfl, by omega⟩
/-- A log: its blocks (itself, its sheets' row, the last sheet, that one's body), what it holds. -/
structure LgS where
  L : Nat
  d : Nat
  S : Nat
  g : Nat
  gb : Nat
  first : Int
  count : Int
  turn : Int
  oldest : Int
  k : Nat
  cS : Nat
  ps : List Value
  Al : Option Addr
  cl : Nat
  ls : List Int
  num : Int
  tn : Int
  bef : Int
  used : Int
  safe : Int
  body : List Int
  c : Nat
  lost : Bool
structure LogW (w : World) (B : Nat) (X : LgS) : Prop where
  blk : Blk w X.L 65 (logC X.d X.first X.count X.turn X.oldest (some ⟨X.S, 0, none⟩) (X.k + 1) X.cS X.Al X.ls.length X.cl)
  shs : RowE w 68 1 X.S (X.k + 1) X.cS (X.ps ++ [.pointer (some ⟨X.g, 0, none⟩)])
  psl : X.ps.length = X.k
  lsn : OwnE w 2 1 X.Al X.ls.length X.cl (i64s X.ls)
  sht : ShtIs w X.g X.gb X.c X.num X.tn X.bef X.used X.body X.safe X.lost
  bL : B ≤ X.L
  bS : B ≤ X.S
  bg : B ≤ X.g
  bb : B ≤ X.gb
  bl : ∀ a, X.Al = some ⟨a, 0, none⟩ → B ≤ a
  cB : 1 ≤ X.count ∧ X.count ≤ 10000
  kB : X.k < 10000
  nB : 0 ≤ X.num ∧ X.num ≤ 9007199254740000
  hB : X.body.length ≤ 496
  lB : X.ls.length ≤ 10000000
theorem LogW.fresh {w w' : World} {B : Nat} {X : LgS} (h : LogW w B X) (ht : Turned (fun _ => False) w w') : LogW w' B X :=
  ⟨h.blk.turned ht (fun e => e), h.shs.fresh ht, h.psl, h.lsn.fresh ht, h.sht.turned ht (fun e => e) (fun e => e), h.bL, h.bS, h.bg, h.bb, h.bl, h.cB, h.kB, h.nB, h.hB, h.lB⟩
theorem LogW.read {w : World} {B : Nat} {X : LgS} (h : LogW w B X) : LogR w X.L X.d X.S X.g X.count X.k X.cS X.num (some ⟨X.gb, 0, none⟩) X.body.length X.c :=
  ⟨h.blk.cell 0, h.blk.cell 2, h.blk.cell 5, h.shs.cell (by rw [List.getElem?_append_right (by rw [h.psl]; exact Nat.le_refl _), h.psl, Nat.sub_self]; rfl), h.sht.blk.cell 0, h.sht.blk.cell 4, h.cB, h.kB, ⟨h.nB.1, by have := h.nB.2; omega⟩, h.hB⟩
/-- Its blocks are five. -/
theorem LogW.apart {w : World} {B : Nat} {X : LgS} (h : LogW w B X) : X.L ≠ X.S ∧ X.L ≠ X.g ∧ X.L ≠ X.gb ∧ X.S ≠ X.g ∧ X.S ≠ X.gb ∧ X.g ≠ X.gb := by
  obtain ⟨cs, hs, _⟩ := h.shs.row
  obtain ⟨cb, hb, _⟩ := h.sht.bod.row
  refine ⟨fun e => ?_, fun e => ?_, fun e => ?_, fun e => ?_, fun e => ?_, fun e => ?_⟩
  · have b := h.blk; rw [e] at b; exact absurd (Blk.inj b hs).2 (by decide)
  · have b := h.blk; rw [e] at b; exact absurd (Blk.inj b h.sht.blk).2 (by decide)
  · have b := h.blk; rw [e] at b; exact absurd (Blk.inj b hb).2 (by decide)
  · rw [e] at hs; exact absurd (Blk.inj hs h.sht.blk).2 (by decide)
  · rw [e] at hs; exact absurd (Blk.inj hs hb).2 (by decide)
  · have b := h.sht.blk; rw [e] at b; exact absurd (Blk.inj b hb).2 (by decide)
theorem LogW.lsnApart {w : World} {B : Nat} {X : LgS} (h : LogW w B X) {a : Nat} (ha : X.Al = some ⟨a, 0, none⟩) : a ≠ X.L ∧ a ≠ X.S ∧ a ≠ X.g ∧ a ≠ X.gb := by
  have hl := h.lsn
  rw [ha] at hl
  obtain ⟨cl, hb, _⟩ := hl.row.row
  obtain ⟨cs, hs, _⟩ := h.shs.row
  obtain ⟨cb, hbb, _⟩ := h.sht.bod.row
  refine ⟨fun e => ?_, fun e => ?_, fun e => ?_, fun e => ?_⟩
  · rw [e] at hb; exact absurd (Blk.inj h.blk hb).2 (by decide)
  · rw [e] at hb; exact absurd (Blk.inj hs hb).2 (by decide)
  · rw [e] at hb; exact absurd (Blk.inj h.sht.blk hb).2 (by decide)
  · rw [e] at hb; exact absurd (Blk.inj hbb hb).2 (by decide)
theorem shtC_set4 (num turn bef used safe : Int) (A A' : Option Addr) (n n' c c' : Nat) (lost : Bool) : (shtC num turn bef used A n c safe lost).setIfInBounds 4 (.slice A' n' c') = shtC num turn bef used A' n' c' safe lost := by unfold shtC; simp only [List.setIfInBounds_toArray, List.set_cons_zero, List.set_cons_succ]
theorem logC_set6 (d : Nat) (first count turn oldest : Int) (As : Option Addr) (k cS : Nat) (Al Al' : Option Addr) (nl nl' cl cl' : Nat) : (logC d first count turn oldest As k cS Al nl cl).setIfInBounds 6 (.slice Al' nl' cl') = logC d first count turn oldest As k cS Al' nl' cl' := by unfold logC; simp only [List.setIfInBounds_toArray, List.set_cons_zero, List.set_cons_succ]
theorem logC_set5 (d : Nat) (first count turn oldest : Int) (As As' : Option Addr) (k k' cS cS' : Nat) (Al : Option Addr) (nl cl : Nat) : (logC d first count turn oldest As k cS Al nl cl).setIfInBounds 5 (.slice As' k' cS') = logC d first count turn oldest As' k' cS' Al nl cl := by unfold logC; simp only [List.setIfInBounds_toArray, List.set_cons_zero, List.set_cons_succ]
/-- What Append leaves where the record fits. -/
def LFit (B : Nat) (X : LgS) (pr : List Int) (w : World) (e : Ending) (w' : World) : Prop := ∃ gb' c' Al' cl', e = .returned (.tuple #[.int .i64 (X.num * 512 + (X.body.length : Int) + 1), .int .i64 0]) ∧ LogW w' B { X with gb := gb', c := c', body := X.body ++ pr, Al := Al', cl := cl', ls := X.ls ++ [X.num * 512 + (X.body.length : Int) + 1] } ∧ Turned (fun i => B ≤ i) w w'
theorem new1_at (w : World) (b : Nat) (T : TypeId) (v : Value) (hb : b = w.heap.size) : ∀ j x, ([v] : List Value)[j]? = some x → (w.alloc (.cells #[v] T)).cell? ((⟨b, 0, none⟩ : Addr).add j) = some x := by subst hb; exact new1_news w T v
/-- What the append to the last body leaves, and the store of it. -/
theorem app_body {B n m c3 : Nat} {X : LgS} {w w2 w3 : World} {A3 : Option Addr} {pr : List Int} (H : LogW w2 B X) (hB : B ≤ w.heap.size) (T : Turned (fun _ => False) w w2) (o3 : OwnV w3 A3 (n + m) c3 (X.body ++ pr))
    (a3 : (A3 = some ⟨X.gb, 0, none⟩ ∧ c3 = X.c ∧ (some ⟨X.gb, 0, none⟩ : Option Addr) ≠ none ∧ Turned (fun q => (some ⟨X.gb, 0, none⟩ : Option Addr) = some ⟨q, 0, none⟩) w2 w3) ∨ (A3 = some ⟨w2.heap.size, 0, none⟩ ∧ Turned (fun _ => False) w2 w3)) (hnm : 0 < n + m) (hm5 : n + m ≤ 496) (hn : n = X.body.length) (hm : m = pr.length) :
    ∃ g3, A3 = some ⟨g3, 0, none⟩ ∧ w3.cell? ⟨X.g, 4, none⟩ = some (.slice (some ⟨X.gb, 0, none⟩) X.body.length X.c) ∧ w3.frozen? ⟨X.g, 4, none⟩ = false ∧
      LogW (w3.setCell ⟨X.g, 4, none⟩ (.slice (some ⟨g3, 0, none⟩) (n + m) c3)) B { X with gb := g3, c := c3, body := X.body ++ pr } ∧ Turned (fun i => B ≤ i) w (w3.setCell ⟨X.g, 4, none⟩ (.slice (some ⟨g3, 0, none⟩) (n + m) c3)) := by
  obtain ⟨p1, p2, p3, p4, p5, p6⟩ := H.apart
  obtain ⟨g3, rfl, r3⟩ := o3.some_ hnm
  have hl : (X.body ++ pr).length = n + m := by rw [List.length_append, hn, hm]
  have hW : ∃ W : Nat → Prop, Turned W w2 w3 ∧ (∀ q, W q → q = X.gb) ∧ (g3 = X.gb ∨ g3 = w2.heap.size) := by
    rcases a3 with ⟨e, _, _, t⟩ | ⟨e, t⟩
    · injection e with e; injection e with e
      exact ⟨_, t, fun q e => by injection e with e; injection e with e; exact e.symm, .inl e⟩
    · injection e with e; injection e with e
      exact ⟨_, t, fun q e => e.elim, .inr e⟩
  obtain ⟨W, t, hq, hg3⟩ := hW
  have hBg3 : B ≤ g3 := by
    rcases hg3 with e | e
    · rw [e]; exact H.bb
    · have := T.size; omega
  have hW' : ∀ q, q ≠ X.gb → ¬ W q := fun q h e => h (hq q e)
  have hsh := H.sht.blk.turned t (hW' _ p6)
  have hg3g : g3 ≠ X.g := by
    rcases hg3 with e | e
    · rw [e]; exact fun e => p6 e.symm
    · have := H.sht.blk.lt; omega
  have hset := hsh.set_ 4 (.slice (some ⟨g3, 0, none⟩) (n + m) c3)
  rw [shtC_set4] at hset
  have ts := (Turned.refl (fun i => i = X.g) w3).setCell (p := ⟨X.g, 4, none⟩) (.inl rfl) (.slice (some ⟨g3, 0, none⟩) (n + m) c3)
  have hal : ∀ q, X.Al = some ⟨q, 0, none⟩ → ¬ W q := fun q e => hW' q (H.lsnApart e).2.2.2
  have hal2 : ∀ q, X.Al = some ⟨q, 0, none⟩ → ¬ (q = X.g) := fun q e => (H.lsnApart e).2.2.1
  refine ⟨g3, rfl, hsh.cell 4, hsh.frozen 4, ⟨(H.blk.turned t (hW' _ p3)).turned ts (fun e => p2 e), (H.shs.turned t (hW' _ p5)).turned ts (fun e => p4 e), H.psl, (H.lsn.turned t hal).turned ts hal2, ⟨?_, ?_⟩, H.bL, H.bS, H.bg, hBg3, H.bl, H.cB, H.kB, H.nB, by show (X.body ++ pr).length ≤ 496; omega, H.lB⟩, ?_⟩
  · show Blk _ X.g _ (shtC X.num X.tn X.bef X.used (some ⟨g3, 0, none⟩) (X.body ++ pr).length c3 X.safe X.lost)
    rw [hl]; exact hset
  · show RowB _ _ g3 (X.body ++ pr).length c3 (X.body ++ pr)
    rw [hl]
    exact r3.turned ts (fun e => hg3g e)
  · have t1 : Turned (fun i => B ≤ i) w w3 := (T.mono (fun _ e => e.elim)).trans t (fun _ e => e) (fun q e => .inl (by rw [hq q e]; exact H.bb))
    exact t1.setCell (p := ⟨X.g, 4, none⟩) (.inl H.bg) _
/-- What the append of a Lsn leaves, and the store of it. -/
theorem app_lsns {B c5 : Nat} {X : LgS} {w w4 w5 : World} {A5 : Option Addr} {x : Int} {o : Obj} (H : LogW w4 B X) (hB : B ≤ w4.heap.size) (T : Turned (fun i => B ≤ i) w w4) (o5 : OwnE w5 2 1 A5 (X.ls.length + 1) c5 (i64s X.ls ++ [.int .i64 x])) (a5 : App2 (w4.alloc o) w5 X.Al A5 X.cl c5) (hll : X.ls.length < 10000000) :
    w5.cell? ⟨X.L, 6, none⟩ = some (.slice X.Al X.ls.length X.cl) ∧ w5.frozen? ⟨X.L, 6, none⟩ = false ∧
      LogW (w5.setCell ⟨X.L, 6, none⟩ (.slice A5 (X.ls.length + 1) c5)) B { X with Al := A5, cl := c5, ls := X.ls ++ [x] } ∧ Turned (fun i => B ≤ i) w (w5.setCell ⟨X.L, 6, none⟩ (.slice A5 (X.ls.length + 1) c5)) := by
  obtain ⟨p1, p2, p3, p4, p5, p6⟩ := H.apart
  have ta := (Turned.refl (fun _ => False) w4).alloc o
  have H4 := H.fresh ta
  have t := a5.turned
  have hW : ∀ q, q = X.L ∨ q = X.S ∨ q = X.g ∨ q = X.gb → ¬ (X.Al = some ⟨q, 0, none⟩) := fun q hq e => by
    have := H.lsnApart e
    rcases hq with r | r | r | r <;> subst r
    · exact this.1 rfl
    · exact this.2.1 rfl
    · exact this.2.2.1 rfl
    · exact this.2.2.2 rfl
  have hb := H4.blk.turned t (hW _ (.inl rfl))
  have hset := hb.set_ 6 (.slice A5 (X.ls.length + 1) c5)
  rw [logC_set6] at hset
  have ts := (Turned.refl (fun i => i = X.L) w5).setCell (p := ⟨X.L, 6, none⟩) (.inl rfl) (.slice A5 (X.ls.length + 1) c5)
  have hl : (X.ls ++ [x]).length = X.ls.length + 1 := by simp
  have hA5 : ∀ q, A5 = some ⟨q, 0, none⟩ → B ≤ q ∧ q ≠ X.L := fun q e => by
    rcases a5 with ⟨e2, _, _, _⟩ | ⟨e2, _⟩
    · rw [e2] at e; exact ⟨H.bl q e, (H.lsnApart e).1⟩
    · rw [e2] at e
      injection e with e; injection e with e
      have h1 := ta.size
      have h2 := H.blk.lt
      have h3 := H4.blk.lt
      exact ⟨by omega, by omega⟩
  refine ⟨hb.cell 6, hb.frozen 6, ⟨?_, (H4.shs.turned t (hW _ (.inr (.inl rfl)))).turned ts (fun e => p1 e.symm), H.psl, ?_, (H4.sht.turned t (hW _ (.inr (.inr (.inl rfl)))) (hW _ (.inr (.inr (.inr rfl))))).turned ts (fun e => p2 e.symm) (fun e => p3 e.symm), H.bL, H.bS, H.bg, H.bb, fun q e => (hA5 q e).1, H.cB, H.kB, H.nB, H.hB, by show (X.ls ++ [x]).length ≤ 10000000; omega⟩, ?_⟩
  · show Blk _ X.L _ (logC X.d X.first X.count X.turn X.oldest (some ⟨X.S, 0, none⟩) (X.k + 1) X.cS A5 (X.ls ++ [x]).length c5)
    rw [hl]; exact hset
  · show OwnE _ _ 1 A5 (X.ls ++ [x]).length c5 (i64s (X.ls ++ [x]))
    rw [hl, i64s_app]
    exact o5.turned ts (fun q e => (hA5 q e).2)
  · have t2 : Turned (fun i => B ≤ i) w w5 := (T.alloc o).trans t (fun _ e => e) (fun q e => .inl (H.bl q e))
    exact t2.setCell (p := ⟨X.L, 6, none⟩) (.inl H.bL) _
set_option maxRecDepth 100000 in
set_option maxHeartbeats 2000000 in
theorem lapp_fit (B : Nat) (X : LgS) (R : Rec) (S : RecS) (w : World) (h : LogW w B X) (hR : rightR R = true) (hI : RecIs w R S) (hBw : B ≤ w.heap.size) (hlen : 3 ≤ (putR R).length ∧ (putR R).length ≤ 496) (hll : X.ls.length < 10000000) (hf : X.body.length + (putR R).length ≤ 496) :
    Calls Tryd.prog 8 #[.pointer (some ⟨X.L, 0, none⟩), .agg (recC R S)] w (LFit B X (putR R) w) := by
  obtain ⟨L, d, Sb, g, gb, first, count, turn, oldest, k, cS, ps, Al, cl, ls, num, tn, bef, used, safe, body, c, lost⟩ := X
  have hP := Lib.hid (fun (w' : World) (t : Turned (fun _ => False) w w') => rput_any R S w' (hI.fresh t))
  unfold RPut at hP
  rw [hR] at hP
  simp only [if_true] at hP
  generalize putR R = pr at *
  have B1 := Lib.hid (Blk.new w 39 (recC R S))
  have T0 := Lib.hid ((Turned.refl (fun _ => False) w).alloc (.cells (recC R S) 39))
  have H := Lib.hid (fun (w' : World) (t : Turned (fun _ => False) w w') => h.fresh t)
  have HB := Lib.hid hBw
  clear h hR hI hBw
  obtain ⟨lsn, work, prev, next, kind, page, key, old, new, dirty, opn⟩ := R
  obtain ⟨⟨KA, Kn, Kc⟩, ⟨OA, On, Oc⟩, ⟨NA, Nn, Nc⟩, ⟨DA, Dn, Dc⟩, ⟨PA, Pn, Pc⟩⟩ := S
  unfold recC at *
  simp only at *
  obtain ⟨hl3, hl4⟩ := hlen
  obtain ⟨m, hm⟩ : ∃ m, m = pr.length := ⟨_, rfl⟩
  rw [← hm] at hP hl3 hl4
  have HM := Lib.hid hm
  obtain ⟨n, hn⟩ : ∃ n, n = body.length := ⟨_, rfl⟩
  have HN := Lib.hid hn
  have hn5 := Lib.hid (H.out w (Turned.refl _ _)).hB
  have hn5b : n ≤ 496 := by have : body.length ≤ 496 := hn5.out; omega
  clear hm hn
  have hmi : (m : Int) ≤ 496 := by omega
  have hm1 : (3 : Int) ≤ (m : Int) := by omega
  go_enter Tryd.func8, Tryd.ntmps8
  go_wp2_with fail
  generalize w.alloc (.cells #[.int .i64 lsn, .int .i64 work, .int .i64 prev, .int .i64 next, .int .u8 kind, .int .i64 page, .slice KA Kn Kc, .slice OA On Oc, .slice NA Nn Nc, .slice DA Dn Dc, .slice PA Pn Pc] 39) = w0 at *
  obtain ⟨bx, hbx⟩ : ∃ bx, bx = w.heap.size := ⟨_, rfl⟩
  rw [← hbx] at B1 ⊢
  clear hbx
  refine (lthere_yes L d w0 (H.out _ T0.out).read.d0).mono ?_
  rintro e w1 ⟨rfl, rfl⟩
  obtain ⟨x0, x1, x2, x3, x4, x5, x6, x7, x8, x9, x10⟩ := B1.out.cells11
  go_wp2_with fail
  clear x0 x1 x2 x3 x4 x5 x6 x7 x8 x9 x10
  refine (hP.out _ T0.out).mono ?_
  rintro e w1 ⟨Ab, cb, rfl, ob, gbB, t1⟩
  have OB := Lib.hid ob
  have GB := Lib.hid gbB
  have T1 := Lib.hid (T0.out.and_ t1)
  have s0 := T0.out.size
  have HS := Lib.hid s0
  clear ob gbB t1 hP B1 s0
  go_wp2_with fail
  refine (llast_any L Sb g k cS w1 (H.out _ T1.out).read.shs (H.out _ T1.out).read.lst (by have h9 : k < 10000 := (H.out _ T1.out).kB; omega)).mono ?_
  rintro e w2 ⟨rfl, t2⟩
  have T2 := Lib.hid (T1.out.and_ t2)
  have OB := Lib.hid (OB.out.turned t2 (fun _ _ e => e))
  have GB := Lib.hid (fun q e => Nat.le_trans T0.out.size (GB.out q e))
  clear t2 T1
  have x4 : w2.cell? ⟨g, 4, none⟩ = some (.slice (some ⟨gb, 0, none⟩) n c) := by have h9 : w2.cell? ⟨g, 4, none⟩ = some (.slice (some ⟨gb, 0, none⟩) body.length c) := (H.out _ T2.out).read.bod; rw [← HN.out] at h9; exact h9
  have hf2 : n + m ≤ 496 := by have := HM.out; have := HN.out; omega
  have hfi : (n : Int) + (m : Int) ≤ 496 := by omega
  clear hf
  go_wp2_with fail
  refine (llsn_any g num n w2 (H.out _ T2.out).read.nm ⟨(H.out _ T2.out).nB.1, by have h9 : num ≤ 9007199254740000 := (H.out _ T2.out).nB.2; omega⟩ (by omega)).mono ?_
  rintro e w3 ⟨rfl, rfl⟩
  obtain ⟨gp, rfl, rp⟩ := OB.out.some_ (by omega)
  have RP := Lib.hid rp
  clear rp
  have HL := Lib.hid (H.out _ T2.out)
  have hap := HL.out.apart
  have hlen := HL.out.sht.bod
  skip
  have bodO : OwnV w2 (some ⟨gb, 0, none⟩) n c body := by have := OwnV.of_row HL.out.sht.bod; rw [← HN.out] at this; exact this
  have BO := Lib.hid bodO
  clear bodO hlen
  go_wp2_with (first | (at_builtin; go_loud (refine wpList_app2 bytT rfl (.tmp 77) (.tmp 78) rfl BO.out ⟨gp, 0, none⟩ m cb pr HM.out.symm (news_of_row RP.out) (by omega) (by omega) rfl rfl ?_; intro A3 c3 w3 o3 a3; have hst := app_body HL.out HB.out T2.out o3 a3 (by omega) hf2 HN.out HM.out; obtain ⟨g3, e3, y4, yf, HT0, HT1⟩ := hst; subst e3; have LT := Lib.hid HT0; have TT := Lib.hid HT1; have z6 : (w3.setCell ⟨g, 4, none⟩ (.slice (some ⟨g3, 0, none⟩) (n + m) c3)).cell? ⟨L, 6, none⟩ = some (.slice Al ls.length cl) := HT0.blk.cell 6; clear HT0 HT1 o3 a3)) | (at_builtin; go_loud (refine wpList_appE i64T rfl (.tmp 86) (.tmp 88) rfl (OwnE.fresh LT.out.lsn ((Turned.refl (fun _ => False) _).alloc (.cells #[.int .i64 (num * 512 + (n : Int) + 1)] 2))) ⟨w3.heap.size, 0, none⟩ 1 1 [.int .i64 (num * 512 + (n : Int) + 1)] rfl (new1_at _ w3.heap.size 2 _ (by simp)) (by simp [Value.oneCell']) (by omega) (by show ls.length + 1 ≤ maxLen; unfold maxLen; omega) (by show (ls.length + 1) * 8 ≤ _; omega) rfl rfl ?_; intro A5 c5 w5 o5 a5; have hst := app_lsns LT.out (by have h1 := TT.out.size; have h2 := HB.out; omega) TT.out o5 a5 hll; obtain ⟨y6, yg, HT0, HT1⟩ := hst; have LF := Lib.hid HT0; have TF := Lib.hid HT1; clear HT0 HT1 o5 a5)))
  go_ret2
  have LF2 := LF.out
  have TF2 := TF.out
  clear LF TF LT TT
  obtain rfl := HN.out
  exact ⟨g3, c3, A5, c5, rfl, LF2, TF2⟩
end Go.Proofs.YtfheikmjjijdpaaDoor

namespace Go.Proofs.YtfheikmjjijdpaaDoor
open Go.RowKit Go.Maps
set_option linter.unusedVariables false
set_option linter.unusedSimpArgs false

theorem hlast_any (L S So g : Nat) (k cS : Nat) (w : World) (h5 : w.cell? ⟨L, 5, none⟩ = some (.slice (some ⟨S, So, none⟩) (k + 1) cS)) (hg : w.cell? ⟨S, So + k, none⟩ = some (.pointer (some ⟨g, 0, none⟩))) (hk : k ≤ 10000) : Calls Tryd.prog 33 #[.pointer (some ⟨L, 0, none⟩)] w (RetNew (.pointer (some ⟨g, 0, none⟩)) w) := by
  go_enter Tryd.func33, Tryd.ntmps33
  have hki : (k : Int) ≤ 10000 := by omega
  go_wp2_with fail
  go_quiet (fail)
  go_wp2_with fail
  go_ret
  exact ⟨rfl, (Turned.refl (fun _ => False) w).drewN nq⟩
/-- What is read of a log: its disk, its sheets, the last of them. -/
structure LhR (w : World) (L d S So g : Nat) (count : Int) (k cS : Nat) (num : Int) (A : Option Addr) (n c : Nat) : Prop where
  d0 : w.cell? ⟨L, 0, none⟩ = some (.pointer (some ⟨d, 0, none⟩))
  cnt : w.cell? ⟨L, 2, none⟩ = some (.int .i64 count)
  shs : w.cell? ⟨L, 5, none⟩ = some (.slice (some ⟨S, So, none⟩) (k + 1) cS)
  lst : w.cell? ⟨S, So + k, none⟩ = some (.pointer (some ⟨g, 0, none⟩))
  nm : w.cell? ⟨g, 0, none⟩ = some (.int .i64 num)
  bod : w.cell? ⟨g, 4, none⟩ = some (.slice A n c)
  cB : 1 ≤ count ∧ count ≤ 10000
  kB : k < 10000
  nB : 0 ≤ num ∧ num ≤ 9007199254740992
  bB : n ≤ 496
theorem LhR.fresh {w w' : World} {L d S So g k cS n c : Nat} {count num : Int} {A : Option Addr} (h : LhR w L d S So g count k cS num A n c) (ht : Turned (fun _ => False) w w') : LhR w' L d S So g count k cS num A n c :=
  ⟨cell_turned ht h.d0 (fun e => e), cell_turned ht h.cnt (fun e => e), cell_turned ht h.shs (fun e => e), cell_turned ht h.lst (fun e => e), cell_turned ht h.nm (fun e => e), cell_turned ht h.bod (fun e => e), h.cB, h.kB, h.nB, h.bB⟩
set_option maxRecDepth 100000 in
theorem hend_any (L d S So g k cS n c : Nat) (count num : Int) (A : Option Addr) (w : World) (h : LhR w L d S So g count k cS num A n c) : Calls Tryd.prog 25 #[.pointer (some ⟨L, 0, none⟩)] w (RetNew (.int .i64 (num * 512 + (n : Int) + 1)) w) := by
  go_enter Tryd.func25, Tryd.ntmps25
  have H := Lib.hid h
  have hn := h.bB
  clear h
  go_wp2_with fail
  refine (lthere_yes L d w H.out.d0).mono ?_
  rintro e w1 ⟨rfl, rfl⟩
  go_wp2_with fail
  refine (hlast_any L S So g k cS w H.out.shs H.out.lst (by have := H.out.kB; omega)).mono ?_
  rintro e w1 ⟨rfl, t1⟩
  have H1 := Lib.hid (H.out.fresh t1)
  have x := H1.out.bod
  have T1 := Lib.hid t1
  clear t1
  go_wp2_with fail
  refine (llsn_any g num n w1 H1.out.nm H1.out.nB (by omega)).mono ?_
  rintro e w2 ⟨rfl, rfl⟩
  go_wp2_with fail
  go_ret
  exact ⟨rfl, T1.out⟩
end Go.Proofs.YtfheikmjjijdpaaDoor

