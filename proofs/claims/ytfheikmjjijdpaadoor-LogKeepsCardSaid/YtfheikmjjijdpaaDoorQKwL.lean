/-
  ytfheikmjjijdpaadoor: laws and walks on the road to LogKeeps, joined: KwS KwL. Conditions stand at each theorem.
-/
import Derived.Test.YtfheikmjjijdpaaDoorQKwA
import Derived.Test.YtfheikmjjijdpaaDoorQKwF
import Derived.Test.YtfheikmjjijdpaaDoorQKwC
import Derived.Test.YtfheikmjjijdpaaDoorQKwK
namespace Go.Proofs.YtfheikmjjijdpaaDoor
open Go.RowKit Go.Maps Go.Proofs
set_option linter.unusedVariables false
set_option linter.unusedSimpArgs false

set_option maxRecDepth 1000000 in
set_option maxHeartbeats 8000000 in
theorem kw_step {A0 : Option Addr} {n0 c0 : Nat} {A1 : Option Addr} {n1 c1 : Nat} {A2 : Option Addr} {n2 c2 d ms mo i : Nat} {rs : List (Rec × RecS)} {w wr : World} {Q : Exit → Act → World → Prop} {z0 : List Int} {c3 c4 c5 u6 u8 u9 c10 u11 u12 u14 u15 u16 u17 u18 u19 u20 u21 u22 u23 u24 u25 u26 u27 c28 c29 c30 c31 c32 c33 c34 c35 c36 c37 c38 c39 c40 c41 c42 c43 c44 c45 c46 c47 c48 c49 c50 c51 u52 u53 u54 u55 u56 u57 u58 u59 u60 u61 u62 u63 u64 u65 u66 u67 u68 u69 u70 u71 u72 u73 u74 u75 u76 u77 u78 u79 u80 u81 u82 u83 u84 u85 u86 u87 u88 u89 u90 u91 u92 u93 u94 u95 u96 u97 u98 u99 u100 u101 u102 u103 u104 u105 u106 u107 u108 u109 u110 u111 u112 u113 u114 u115 u116 u117 u118 u119 u120 u121 u122 u123 u124 u125 u126 u127 u128 u129 u130 u131 u132 u133 u134 u135 u136 u137 u138 u139 u140 u141 u142 u143 u144 u145 u146 u147 u148 u149 u150 u151 u152 u153 u154 u155 u156 u157 u158 u159 u160 u161 u162 u163 u164 u165 u166 u167 u168 u169 u170 u171 u172 u173 u174 u175 u176 u177 u178 u179 u180 u181 u182 u183 u184 u185 u186 u187 u188 u189 u190 u191 u192 u193 u194 u195 u196 u197 u198 u199 u200 u201 u202 u203 u204 u205 u206 u207 u208 u209 u210 u211 u212 u213 u214 u215 u216 u217 u218 u219 u220 u221 u222 u223 u224 u225 u226 u227 u228 u229 u230 u231 u232 u233 u234 u235 u236 u237 u238 u239 u240 u241 u242 u243 u244 u245 u246 u247 u248 u249 : Value} (h0 : LongR w A0 n0 c0 z0) (h1 : RecsR w A1 n1 c1 rs) (h2 : FatL w A2 n2 c2) (hi : i < n0) (hn0 : n0 ≤ 100) (hn1 : n1 ≤ 40) (hn2 : n2 ≤ 100) (hst : KSt w d ms mo i u8 u9 u11 u12 wr) (hK : ∀ (v6 v8 v9 v11 v12 v14 v15 v16 v17 v18 v19 v20 v21 v22 v23 v24 v25 v26 v27 v52 v53 v54 v55 v56 v57 v58 v59 v60 v61 v62 v63 v64 v65 v66 v67 v68 v69 v70 v71 v72 v73 v74 v75 v76 v77 v78 v79 v80 v81 v82 v83 v84 v85 v86 v87 v88 v89 v90 v91 v92 v93 v94 v95 v96 v97 v98 v99 v100 v101 v102 v103 v104 v105 v106 v107 v108 v109 v110 v111 v112 v113 v114 v115 v116 v117 v118 v119 v120 v121 v122 v123 v124 v125 v126 v127 v128 v129 v130 v131 v132 v133 v134 v135 v136 v137 v138 v139 v140 v141 v142 v143 v144 v145 v146 v147 v148 v149 v150 v151 v152 v153 v154 v155 v156 v157 v158 v159 v160 v161 v162 v163 v164 v165 v166 v167 v168 v169 v170 v171 v172 v173 v174 v175 v176 v177 v178 v179 v180 v181 v182 v183 v184 v185 v186 v187 v188 v189 v190 v191 v192 v193 v194 v195 v196 v197 v198 v199 v200 v201 v202 v203 v204 v205 v206 v207 v208 v209 v210 v211 v212 v213 v214 v215 v216 v217 v218 v219 v220 v221 v222 v223 v224 v225 v226 v227 v228 v229 v230 v231 v232 v233 v234 v235 v236 v237 v238 v239 v240 v241 v242 v243 v244 v245 v246 v247 v248 v249 : Value) (wc : World), KSt w d ms mo (i + 1) v8 v9 v11 v12 wc → Q .normal ⟨#[.slice A0 n0 c0, .slice A1 n1 c1, .slice A2 n2 c2, c3, c4, c5, v6, .pointer (some ⟨d, 0, none⟩), v8, v9, c10, v11, v12, .int .i64 i, v14, v15, v16, v17, v18, v19, v20, v21, v22, v23, v24, v25, v26, v27, c28, c29, c30, c31, c32, c33, c34, c35, c36, c37, c38, c39, c40, c41, c42, c43, c44, c45, c46, c47, c48, c49, c50, c51, v52, v53, v54, v55, v56, v57, v58, v59, v60, v61, v62, v63, v64, v65, v66, v67, v68, v69, v70, v71, v72, v73, v74, v75, v76, v77, v78, v79, v80, v81, v82, v83, v84, v85, v86, v87, v88, v89, v90, v91, v92, v93, v94, v95, v96, v97, v98, v99, v100, v101, v102, v103, v104, v105, v106, v107, v108, v109, v110, v111, v112, v113, v114, v115, v116, v117, v118, v119, v120, v121, v122, v123, v124, v125, v126, v127, v128, v129, v130, v131, v132, v133, v134, v135, v136, v137, v138, v139, v140, v141, v142, v143, v144, v145, v146, v147, v148, v149, v150, v151, v152, v153, v154, v155, v156, v157, v158, v159, v160, v161, v162, v163, v164, v165, v166, v167, v168, v169, v170, v171, v172, v173, v174, v175, v176, v177, v178, v179, v180, v181, v182, v183, v184, v185, v186, v187, v188, v189, v190, v191, v192, v193, v194, v195, v196, v197, v198, v199, v200, v201, v202, v203, v204, v205, v206, v207, v208, v209, v210, v211, v212, v213, v214, v215, v216, v217, v218, v219, v220, v221, v222, v223, v224, v225, v226, v227, v228, v229, v230, v231, v232, v233, v234, v235, v236, v237, v238, v239, v240, v241, v242, v243, v244, v245, v246, v247, v248, v249], []⟩ wc) (hP : ∀ ch a dd v w, Q (.panic ch) (Act.put a (some dd) v) w → Q (.panic ch) a w) : Code.wp Tryd.prog kStep Q ⟨#[.slice A0 n0 c0, .slice A1 n1 c1, .slice A2 n2 c2, c3, c4, c5, u6, .pointer (some ⟨d, 0, none⟩), u8, u9, c10, u11, u12, .int .i64 i, u14, u15, u16, u17, u18, u19, u20, u21, u22, u23, u24, u25, u26, u27, c28, c29, c30, c31, c32, c33, c34, c35, c36, c37, c38, c39, c40, c41, c42, c43, c44, c45, c46, c47, c48, c49, c50, c51, u52, u53, u54, u55, u56, u57, u58, u59, u60, u61, u62, u63, u64, u65, u66, u67, u68, u69, u70, u71, u72, u73, u74, u75, u76, u77, u78, u79, u80, u81, u82, u83, u84, u85, u86, u87, u88, u89, u90, u91, u92, u93, u94, u95, u96, u97, u98, u99, u100, u101, u102, u103, u104, u105, u106, u107, u108, u109, u110, u111, u112, u113, u114, u115, u116, u117, u118, u119, u120, u121, u122, u123, u124, u125, u126, u127, u128, u129, u130, u131, u132, u133, u134, u135, u136, u137, u138, u139, u140, u141, u142, u143, u144, u145, u146, u147, u148, u149, u150, u151, u152, u153, u154, u155, u156, u157, u158, u159, u160, u161, u162, u163, u164, u165, u166, u167, u168, u169, u170, u171, u172, u173, u174, u175, u176, u177, u178, u179, u180, u181, u182, u183, u184, u185, u186, u187, u188, u189, u190, u191, u192, u193, u194, u195, u196, u197, u198, u199, u200, u201, u202, u203, u204, u205, u206, u207, u208, u209, u210, u211, u212, u213, u214, u215, u216, u217, u218, u219, u220, u221, u222, u223, u224, u225, u226, u227, u228, u229, u230, u231, u232, u233, u234, u235, u236, u237, u238, u239, u240, u241, u242, u243, u244, u245, u246, u247, u248, u249], []⟩ wr := by
  have HK := Lib.hid hK
  have HP := Lib.hid hP
  have H1 := Lib.hid h1
  have H2 := Lib.hid h2
  have HST := Lib.hid hst
  have ht : Turned (fun _ => False) w wr := by
    obtain ⟨T, X, A, c, rows, safe, D, E, _, _, _, _, hk, _⟩ := hst
    exact hk.turned
  clear hK hP h1 h2 hst
  obtain ⟨b0, f0, rfl, hx, hy⟩ := h0.at_ ht (fun _ e => e.elim) hi
  generalize z0.getD i 0 = x at hx hy
  have HY := Lib.hid hy
  clear hy h0 ht
  have hii : (i : Int) < (n0 : Int) := by omega
  conv => arg 2; whnf
  have mixed : Tryd.prog.follows .mixedOrders = true := by kernel_rfl
  go_wp2_with fail
  refine (pick_any x 4000 wr (by omega) (by omega) HY.out.1 HY.out.2).mono ?_
  rintro e w4 ⟨rfl, rfl⟩
  dsimp only
  clear hx
  obtain ⟨m, hm, hm4⟩ : ∃ m : Nat, x % 4000 = (m : Int) ∧ m < 4000 := ⟨(x % 4000).toNat, by omega, by omega⟩
  rw [hm]
  clear hm HY
  obtain ⟨r, hr, hr6⟩ : ∃ r : Int, (m : Int).tmod 6 = r ∧ 0 ≤ r ∧ r < 6 := ⟨(m : Int) % 6, by rw [Int.tmod_eq_emod_of_nonneg (by omega)], by omega, by omega⟩
  have HM := Lib.hid hm4
  clear hm4
  go_upto_block 2 with fail
  rename_i KK hKK
  have hi100 : i < 100 := by omega
  rcases (show r < 3 ∨ r = 3 ∨ r = 4 ∨ r = 5 by omega) with h | h | h | h
  · refine kw_app (rs := rs) ⟨hr6.1, h⟩ H1.out hi100 hn1 hn2 HM.out hr HST.out ?_ ?_
    · intros
      rename_i hs
      exact hKK _ _ (kw_chk (rs := rs) hi100 hs HK.out (fun _ _ _ _ _ h => HP.out _ _ _ _ _ h))
    · exact HK.out
  · refine kw_force (rs := rs) h hi100 hn1 hn2 HM.out hr HST.out ?_ ?_
    · intros
      rename_i hs
      exact hKK _ _ (kw_chk (rs := rs) hi100 hs HK.out (fun _ _ _ _ _ h => HP.out _ _ _ _ _ h))
    · exact HK.out
  · refine kw_trim (rs := rs) h hi100 hn1 hn2 HM.out hr HST.out ?_ ?_
    · intros
      rename_i hs
      exact hKK _ _ (kw_chk (rs := rs) hi100 hs HK.out (fun _ _ _ _ _ h => HP.out _ _ _ _ _ h))
    · exact HK.out
  · refine kw_crash (rs := rs) h H2.out hi100 hn1 hn2 HM.out hr HST.out ?_ ?_
    · intros
      rename_i hs
      exact hKK _ _ (kw_chk (rs := rs) hi100 hs HK.out (fun _ _ _ _ _ h => HP.out _ _ _ _ _ h))
    · exact HK.out
end Go.Proofs.YtfheikmjjijdpaaDoor

namespace Go.Proofs.YtfheikmjjijdpaaDoor
open Go.RowKit Go.Maps Go.Proofs
set_option linter.unusedVariables false
set_option linter.unusedSimpArgs false

set_option maxRecDepth 100000 in
set_option maxHeartbeats 8000000 in
theorem logKeeps_core (A0 : Option Addr) (n0 c0 : Nat) (z0 : List Int) (A1 : Option Addr) (n1 c1 : Nat) (rs : List (Rec × RecS)) (A2 : Option Addr) (n2 c2 : Nat) (w : World) (h0 : LongR w A0 n0 c0 z0) (h1 : RecsR w A1 n1 c1 rs) (h2 : FatL w A2 n2 c2) (hn0 : n0 ≤ 100) (hn1 : n1 ≤ 40) (hn2 : n2 ≤ 100) : Calls Tryd.prog 4 #[.slice A0 n0 c0, .slice A1 n1 c1, .slice A2 n2 c2] w (OkNew w) := by
  have H0 := Lib.hid h0
  have H1 := Lib.hid h1
  have H2 := Lib.hid h2
  clear h0 h1 h2
  have hn0i : (n0 : Int) ≤ 100 := by omega
  have hn1i : (n1 : Int) ≤ 40 := by omega
  have hn2i : (n2 : Int) ≤ 100 := by omega
  have hd0 : ¬ (100 : Int) < (n0 : Int) := by omega
  have hd1 : ¬ (40 : Int) < (n1 : Int) := by omega
  have hd2 : ¬ (100 : Int) < (n2 : Int) := by omega
  have hc0 : decide ((100 : Int) < (n0 : Int)) = false := by simp; omega
  have hc1 : decide ((40 : Int) < (n1 : Int)) = false := by simp; omega
  have hc2 : decide ((100 : Int) < (n2 : Int)) = false := by simp; omega
  have mixed : Tryd.prog.follows .mixedOrders = true := by kernel_rfl
  go_enter Tryd.func4, Tryd.ntmps4
  go_wp2_with fail
  refine (awake20_any w).mono ?_
  rintro e w1 ⟨rfl, t1⟩
  have T1 := Lib.hid t1
  clear t1
  go_wp2_with fail
  refine (new_yes 7 w1 (by omega) (by omega)).mono ?_
  rintro e w2 ⟨d, ms, mo, rfl, hd, t2, hnew, _⟩
  have D2 := Lib.hid hd
  have T2 := Lib.hid (T1.out.and_ t2)
  have HN := Lib.hid (fun i (hi : dskW d ms mo i) => Nat.le_trans T1.out.size (hnew i hi))
  clear hd t2 hnew T1
  go_wp2_with fail
  refine (lopen_zero d ms mo (DA.new 7) 1 6 1 w2 D2.out rfl (by omega) (by omega) (by show (1 : Int) + 6 ≤ 7; omega) ⟨by omega, by omega⟩ rfl).mono ?_
  rintro e w3 ⟨L, S, g, gb, cS, rfl, l, t3⟩
  have hl : LogM w3 ⟨L, d, 1, 6, 1, 1, S, 0, cS, none, 0, [], [⟨g, gb, 0, 0, 1, 0, 0, [], 0, true⟩]⟩ := ⟨l.blk, RowO.of_row l.shs, OwnO.of_own l.lsn, fun s hs => by rw [List.mem_singleton.1 hs]; exact l.sht, by simp, by simp, l.cB, by show 1 ≤ 10000; omega, fun s hs => by rw [List.mem_singleton.1 hs]; exact ⟨Int.le_refl _, by show (0 : Int) ≤ _; omega⟩, fun s hs => by rw [List.mem_singleton.1 hs]; exact Nat.zero_le _, Nat.zero_le _⟩
  have hown : ∀ i, LgM.own ⟨L, d, 1, 6, 1, 1, S, 0, cS, none, 0, [], [⟨g, gb, 0, 0, 1, 0, 0, [], 0, true⟩]⟩ i → w2.heap.size ≤ i := fun i hi => by
    rcases hi with e | e | ⟨o, e⟩ | ⟨s, hs, e⟩
    · have h9 := l.bL; have e2 : i = L := e; show w2.heap.size ≤ i; rw [e2]; exact h9
    · have h9 := l.bS; have e2 : i = S := e; show w2.heap.size ≤ i; rw [e2]; exact h9
    · cases e
    · rw [List.mem_singleton.1 hs] at e
      rcases e with e | e
      · have h9 := l.bg; have e2 : i = g := e; show w2.heap.size ≤ i; rw [e2]; exact h9
      · have h9 := l.bb; have e2 : i = gb := e; show w2.heap.size ≤ i; rw [e2]; exact h9
  have ST0 := Lib.hid (kst_first D2.out HN.out T2.out t3 hl rfl hown ⟨dur_new, Int.le_refl _, rfl, rfl, rfl, rfl, rfl, _, rfl, rfl, rfl, rfl, rfl, rfl⟩)
  clear l t3 hl hown D2 HN T2
  go_wp2_with fail
  go_loopw [8, 9, 11, 12, 13, 14, 15, 16, 17, 18, 19, 20, 21, 22, 23, 24, 25, 26, 27] (fun v8 v9 v11 v12 v13 _ _ _ _ _ _ _ _ _ _ _ _ _ _ wr => ∃ i : Nat, i ≤ n0 ∧ v13 = .int .i64 i ∧ KSt w d ms mo i v8 v9 v11 v12 wr) (fun _ _ _ _ v13 _ _ _ _ _ _ _ _ _ _ _ _ _ _ _ => n0 - (intOf v13).toNat)
  case atStart => exact ⟨0, by omega, rfl, ST0.out⟩
  case round =>
    obtain ⟨i, hi, rfl, hst⟩ := hrel
    have HST := Lib.hid hst
    clear hst ST0
    by_cases hlt : i < n0
    · have hj' : (i : Int) < (n0 : Int) := by omega
      skip
      go_upto_block 1 with fail
      refine kw_step H0.out H1.out H2.out hlt hn0 hn1 hn2 HST.out ?_ (fun _ _ _ _ _ h => h)
      intros
      rename_i hs
      have R9 := Lib.hid (show ∃ i9 : Nat, i9 ≤ n0 ∧ Value.int .i64 ((i + 1 : Nat) : Int) = .int .i64 i9 ∧ KSt w d ms mo i9 _ _ _ _ _ from ⟨i + 1, hlt, rfl, hs⟩)
      clear hs
      dsimp only [Exit.then]
      go_wp2_with fail
      go_roundw
      case rel =>
        first
        | exact R9.out
        | ((repeat apply Exists.intro); exact ⟨R9.out, rfl⟩)
        | ((repeat apply Exists.intro); exact ⟨R9.out, rfl, rfl⟩)
      case measure => simp [intOf] <;> omega
    · have hj' : ¬ (i : Int) < (n0 : Int) := by omega
      obtain ⟨T, X, A, c, rows, safe, D, E, rfl, rfl, rfl, rfl, hk, _⟩ := HST.out
      have K := Lib.hid hk
      clear hk HST
      go_wp2_with fail
      go_ret
      exact ⟨rfl, K.out.turned⟩
set_option maxRecDepth 100000 in
theorem logKeeps_any (A0 : Option Addr) (n0 c0 : Nat) (z0 : List Int) (A1 : Option Addr) (n1 c1 : Nat) (rs : List (Rec × RecS)) (A2 : Option Addr) (n2 c2 : Nat) (w : World) (h0 : LongR w A0 n0 c0 z0) (h1 : RecsR w A1 n1 c1 rs) (h2 : FatL w A2 n2 c2) : Calls Tryd.prog 4 #[.slice A0 n0 c0, .slice A1 n1 c1, .slice A2 n2 c2] w (OkNew w) := by
  by_cases hn0 : n0 ≤ 100
  · by_cases hn2 : n2 ≤ 100
    · by_cases hn1 : n1 ≤ 40
      · exact logKeeps_core A0 n0 c0 z0 A1 n1 c1 rs A2 n2 c2 w h0 h1 h2 hn0 hn1 hn2
      · skip
        have hd0 : decide ((100 : Int) < (n0 : Int)) = false := by simp; omega
        have hi0 : ¬ (100 : Int) < (n0 : Int) := by omega
        have hd2 : decide ((100 : Int) < (n2 : Int)) = false := by simp; omega
        have hi2 : ¬ (100 : Int) < (n2 : Int) := by omega
        have hd1 : decide ((40 : Int) < (n1 : Int)) = true := by simp; omega
        have hi1 : (40 : Int) < (n1 : Int) := by omega
        clear h0 h1 h2
        go_enter Tryd.func4, Tryd.ntmps4
        go_wp2_with fail
        refine (awake20_any w).mono ?_
        rintro e w1 ⟨rfl, t1⟩
        go_wp2_with fail
        go_ret
        exact ⟨rfl, t1⟩
    · skip
      have hd0 : decide ((100 : Int) < (n0 : Int)) = false := by simp; omega
      have hi0 : ¬ (100 : Int) < (n0 : Int) := by omega
      have hd2 : decide ((100 : Int) < (n2 : Int)) = true := by simp; omega
      have hi2 : (100 : Int) < (n2 : Int) := by omega
      clear h0 h1 h2
      go_enter Tryd.func4, Tryd.ntmps4
      go_wp2_with fail
      refine (awake20_any w).mono ?_
      rintro e w1 ⟨rfl, t1⟩
      go_wp2_with fail
      go_ret
      exact ⟨rfl, t1⟩
  · skip
    have hd0 : decide ((100 : Int) < (n0 : Int)) = true := by simp; omega
    have hi0 : (100 : Int) < (n0 : Int) := by omega
    clear h0 h1 h2
    go_enter Tryd.func4, Tryd.ntmps4
    go_wp2_with fail
    refine (awake20_any w).mono ?_
    rintro e w1 ⟨rfl, t1⟩
    go_wp2_with fail
    go_ret
    exact ⟨rfl, t1⟩
end Go.Proofs.YtfheikmjjijdpaaDoor

