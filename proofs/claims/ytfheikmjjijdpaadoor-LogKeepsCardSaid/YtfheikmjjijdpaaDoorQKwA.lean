/-
  LogKeeps: a record is appended, or refused, or passed over. Condition: the step's kind is 0, 1, 2.
-/
import Derived.Test.YtfheikmjjijdpaaDoorQKmX
namespace Go.Proofs.YtfheikmjjijdpaaDoor
open Go.RowKit Go.Maps Go.Proofs
set_option linter.unusedVariables false
set_option linter.unusedSimpArgs false

set_option maxRecDepth 1000000 in
set_option maxHeartbeats 8000000 in
theorem kw_app {A0 : Option Addr} {n0 c0 : Nat} {A1 : Option Addr} {n1 c1 : Nat} {A2 : Option Addr} {n2 c2 d ms mo i : Nat} {rs : List (Rec × RecS)} {w wr : World} {Q : Exit → Act → World → Prop} {m : Nat} {r : Int} {c3 c4 c5 u6 u8 u9 c10 u11 u12 u15 u16 u17 u18 u19 u20 u21 u22 u23 u24 u25 u26 u27 c28 c29 c30 c31 c32 c33 c34 c35 c36 c37 c38 c39 c40 c41 c42 c43 c44 c45 c46 c47 c48 c49 c50 c51 u52 u53 u54 u55 u56 u57 u58 u59 u60 u61 u62 u63 u65 u66 u67 u68 u69 u70 u71 u72 u73 u74 u75 u76 u77 u78 u79 u80 u81 u82 u83 u84 u85 u86 u87 u88 u89 u90 u91 u92 u93 u94 u95 u96 u97 u98 u99 u100 u101 u102 u103 u104 u105 u106 u107 u108 u109 u110 u111 u112 u113 u114 u115 u116 u117 u118 u119 u120 u121 u122 u123 u124 u125 u126 u127 u128 u129 u130 u131 u132 u133 u134 u135 u136 u137 u138 u139 u140 u141 u142 u143 u144 u145 u146 u147 u148 u149 u150 u151 u152 u153 u154 u155 u156 u157 u158 u159 u160 u161 u162 u163 u164 u165 u166 u167 u168 u169 u170 u171 u172 u173 u174 u175 u176 u177 u178 u179 u180 u181 u182 u183 u184 u185 u186 u187 u188 u189 u190 u191 u192 u193 u194 u195 u196 u197 u198 u199 u200 u201 u202 u203 u204 u205 u206 u207 u208 u209 u210 u211 u212 u213 u214 u215 u216 u217 u218 u219 u220 u221 u222 u223 u224 u225 u226 u227 u228 u229 u230 u231 u232 u233 u234 u235 u236 u237 u238 u239 u240 u241 u242 u243 u244 u245 u246 u247 u248 u249 : Value} (hr3 : 0 ≤ r ∧ r < 3) (h1 : RecsR w A1 n1 c1 rs) (hi : i < 100) (hn1 : n1 ≤ 40) (hn2 : n2 ≤ 100) (hm : m < 4000) (hr : (m : Int).tmod 6 = r) (hst : KSt w d ms mo i u8 u9 u11 u12 wr) (hK : ∀ (v6 v8 v9 v11 v12 v14 v15 v16 v17 v18 v19 v20 v21 v22 v23 v24 v25 v26 v27 v52 v53 v54 v55 v56 v57 v58 v59 v60 v61 v62 v63 v64 v65 v66 v67 v68 v69 v70 v71 v72 v73 v74 v75 v76 v77 v78 v79 v80 v81 v82 v83 v84 v85 v86 v87 v88 v89 v90 v91 v92 v93 v94 v95 v96 v97 v98 v99 v100 v101 v102 v103 v104 v105 v106 v107 v108 v109 v110 v111 v112 v113 v114 v115 v116 v117 v118 v119 v120 v121 v122 v123 v124 v125 v126 v127 v128 v129 v130 v131 v132 v133 v134 v135 v136 v137 v138 v139 v140 v141 v142 v143 v144 v145 v146 v147 v148 v149 v150 v151 v152 v153 v154 v155 v156 v157 v158 v159 v160 v161 v162 v163 v164 v165 v166 v167 v168 v169 v170 v171 v172 v173 v174 v175 v176 v177 v178 v179 v180 v181 v182 v183 v184 v185 v186 v187 v188 v189 v190 v191 v192 v193 v194 v195 v196 v197 v198 v199 v200 v201 v202 v203 v204 v205 v206 v207 v208 v209 v210 v211 v212 v213 v214 v215 v216 v217 v218 v219 v220 v221 v222 v223 v224 v225 v226 v227 v228 v229 v230 v231 v232 v233 v234 v235 v236 v237 v238 v239 v240 v241 v242 v243 v244 v245 v246 v247 v248 v249 : Value) (wc : World), KSt w d ms mo (i + 1) v8 v9 v11 v12 wc → Q .normal ⟨#[.slice A0 n0 c0, .slice A1 n1 c1, .slice A2 n2 c2, c3, c4, c5, v6, .pointer (some ⟨d, 0, none⟩), v8, v9, c10, v11, v12, .int .i64 i, v14, v15, v16, v17, v18, v19, v20, v21, v22, v23, v24, v25, v26, v27, c28, c29, c30, c31, c32, c33, c34, c35, c36, c37, c38, c39, c40, c41, c42, c43, c44, c45, c46, c47, c48, c49, c50, c51, v52, v53, v54, v55, v56, v57, v58, v59, v60, v61, v62, v63, v64, v65, v66, v67, v68, v69, v70, v71, v72, v73, v74, v75, v76, v77, v78, v79, v80, v81, v82, v83, v84, v85, v86, v87, v88, v89, v90, v91, v92, v93, v94, v95, v96, v97, v98, v99, v100, v101, v102, v103, v104, v105, v106, v107, v108, v109, v110, v111, v112, v113, v114, v115, v116, v117, v118, v119, v120, v121, v122, v123, v124, v125, v126, v127, v128, v129, v130, v131, v132, v133, v134, v135, v136, v137, v138, v139, v140, v141, v142, v143, v144, v145, v146, v147, v148, v149, v150, v151, v152, v153, v154, v155, v156, v157, v158, v159, v160, v161, v162, v163, v164, v165, v166, v167, v168, v169, v170, v171, v172, v173, v174, v175, v176, v177, v178, v179, v180, v181, v182, v183, v184, v185, v186, v187, v188, v189, v190, v191, v192, v193, v194, v195, v196, v197, v198, v199, v200, v201, v202, v203, v204, v205, v206, v207, v208, v209, v210, v211, v212, v213, v214, v215, v216, v217, v218, v219, v220, v221, v222, v223, v224, v225, v226, v227, v228, v229, v230, v231, v232, v233, v234, v235, v236, v237, v238, v239, v240, v241, v242, v243, v244, v245, v246, v247, v248, v249], []⟩ wc) (hC : ∀ (v6 v8 v9 v11 v12 v14 v15 v16 v17 v18 v19 v20 v21 v22 v23 v24 v25 v26 v27 v52 v53 v54 v55 v56 v57 v58 v59 v60 v61 v62 v63 v64 v65 v66 v67 v68 v69 v70 v71 v72 v73 v74 v75 v76 v77 v78 v79 v80 v81 v82 v83 v84 v85 v86 v87 v88 v89 v90 v91 v92 v93 v94 v95 v96 v97 v98 v99 v100 v101 v102 v103 v104 v105 v106 v107 v108 v109 v110 v111 v112 v113 v114 v115 v116 v117 v118 v119 v120 v121 v122 v123 v124 v125 v126 v127 v128 v129 v130 v131 v132 v133 v134 v135 v136 v137 v138 v139 v140 v141 v142 v143 v144 v145 v146 v147 v148 v149 v150 v151 v152 v153 v154 v155 v156 v157 v158 v159 v160 v161 v162 v163 v164 v165 v166 v167 v168 v169 v170 v171 v172 v173 v174 v175 v176 v177 v178 v179 v180 v181 v182 v183 v184 v185 v186 v187 v188 v189 v190 v191 v192 v193 v194 v195 v196 v197 v198 v199 v200 v201 v202 v203 v204 v205 v206 v207 v208 v209 v210 v211 v212 v213 v214 v215 v216 v217 v218 v219 v220 v221 v222 v223 v224 v225 v226 v227 v228 v229 v230 v231 v232 v233 v234 v235 v236 v237 v238 v239 v240 v241 v242 v243 v244 v245 v246 v247 v248 v249 : Value) (wc : World), KSt w d ms mo (i + 1) v8 v9 v11 v12 wc → Q (.exit 1) ⟨#[.slice A0 n0 c0, .slice A1 n1 c1, .slice A2 n2 c2, c3, c4, c5, v6, .pointer (some ⟨d, 0, none⟩), v8, v9, c10, v11, v12, .int .i64 i, v14, v15, v16, v17, v18, v19, v20, v21, v22, v23, v24, v25, v26, v27, c28, c29, c30, c31, c32, c33, c34, c35, c36, c37, c38, c39, c40, c41, c42, c43, c44, c45, c46, c47, c48, c49, c50, c51, v52, v53, v54, v55, v56, v57, v58, v59, v60, v61, v62, v63, v64, v65, v66, v67, v68, v69, v70, v71, v72, v73, v74, v75, v76, v77, v78, v79, v80, v81, v82, v83, v84, v85, v86, v87, v88, v89, v90, v91, v92, v93, v94, v95, v96, v97, v98, v99, v100, v101, v102, v103, v104, v105, v106, v107, v108, v109, v110, v111, v112, v113, v114, v115, v116, v117, v118, v119, v120, v121, v122, v123, v124, v125, v126, v127, v128, v129, v130, v131, v132, v133, v134, v135, v136, v137, v138, v139, v140, v141, v142, v143, v144, v145, v146, v147, v148, v149, v150, v151, v152, v153, v154, v155, v156, v157, v158, v159, v160, v161, v162, v163, v164, v165, v166, v167, v168, v169, v170, v171, v172, v173, v174, v175, v176, v177, v178, v179, v180, v181, v182, v183, v184, v185, v186, v187, v188, v189, v190, v191, v192, v193, v194, v195, v196, v197, v198, v199, v200, v201, v202, v203, v204, v205, v206, v207, v208, v209, v210, v211, v212, v213, v214, v215, v216, v217, v218, v219, v220, v221, v222, v223, v224, v225, v226, v227, v228, v229, v230, v231, v232, v233, v234, v235, v236, v237, v238, v239, v240, v241, v242, v243, v244, v245, v246, v247, v248, v249], []⟩ wc) : Code.wp Tryd.prog kDo Q ⟨#[.slice A0 n0 c0, .slice A1 n1 c1, .slice A2 n2 c2, c3, c4, c5, u6, .pointer (some ⟨d, 0, none⟩), u8, u9, c10, u11, u12, .int .i64 i, .int .i64 m, u15, u16, u17, u18, u19, u20, u21, u22, u23, u24, u25, u26, u27, c28, c29, c30, c31, c32, c33, c34, c35, c36, c37, c38, c39, c40, c41, c42, c43, c44, c45, c46, c47, c48, c49, c50, c51, u52, u53, u54, u55, u56, u57, u58, u59, u60, u61, u62, u63, .int .i64 r, u65, u66, u67, u68, u69, u70, u71, u72, u73, u74, u75, u76, u77, u78, u79, u80, u81, u82, u83, u84, u85, u86, u87, u88, u89, u90, u91, u92, u93, u94, u95, u96, u97, u98, u99, u100, u101, u102, u103, u104, u105, u106, u107, u108, u109, u110, u111, u112, u113, u114, u115, u116, u117, u118, u119, u120, u121, u122, u123, u124, u125, u126, u127, u128, u129, u130, u131, u132, u133, u134, u135, u136, u137, u138, u139, u140, u141, u142, u143, u144, u145, u146, u147, u148, u149, u150, u151, u152, u153, u154, u155, u156, u157, u158, u159, u160, u161, u162, u163, u164, u165, u166, u167, u168, u169, u170, u171, u172, u173, u174, u175, u176, u177, u178, u179, u180, u181, u182, u183, u184, u185, u186, u187, u188, u189, u190, u191, u192, u193, u194, u195, u196, u197, u198, u199, u200, u201, u202, u203, u204, u205, u206, u207, u208, u209, u210, u211, u212, u213, u214, u215, u216, u217, u218, u219, u220, u221, u222, u223, u224, u225, u226, u227, u228, u229, u230, u231, u232, u233, u234, u235, u236, u237, u238, u239, u240, u241, u242, u243, u244, u245, u246, u247, u248, u249], []⟩ wr := by
  have HK := Lib.hid hK
  have HC := Lib.hid hC
  clear hK hC
  conv => arg 2; whnf
  have mixed : Tryd.prog.follows .mixedOrders = true := by kernel_rfl
  have HM := Lib.hid hm
  clear hm
  obtain ⟨q, hq, hq6⟩ : ∃ q : Nat, (m : Int).tdiv 6 = (q : Int) ∧ q ≤ 666 := ⟨m / 6, by rw [Int.tdiv_eq_ediv_of_nonneg (by omega)]; have := HM.out; omega, by have := HM.out; omega⟩
  obtain ⟨T, X, A, c, rows, safe, D, E, rfl, rfl, rfl, rfl, hk, hD, hdn, har, hrel, hrl, hT⟩ := hst
  have K := Lib.hid hk
  have HD := Lib.hid hD
  have HDN := Lib.hid hdn
  have HAR := Lib.hid har
  have HR := Lib.hid hrel
  have HRL := Lib.hid hrl
  have HT := Lib.hid hT
  have HS := Lib.hid hrel.safeLe
  have HT1 := Lib.hid hrel.T1
  clear hk hD hdn har hrel hrl hT
  have H1 := Lib.hid h1
  clear h1
  go_upto_if 133 with fail
  go_cut [133] from 134 to 249 (fun u133 wc => u133 = .bool true ∧ wc = wr)
  case first =>
    rcases (show r = 0 ∨ r = 1 ∨ r = 2 by omega) with rfl | rfl | rfl
    · go_wp2_with fail
      go_meet
      exact ⟨rfl, rfl⟩
    · go_wp2_with fail
      go_meet
      exact ⟨rfl, rfl⟩
    · go_wp2_with fail
      go_meet
      exact ⟨rfl, rfl⟩
  case rest =>
    obtain ⟨rfl, hw⟩ := hcut
    obtain rfl : wr = wc := hw.symm
    clear hw
    go_wp2_with fail
    refine (of_any m wr HM.out).mono ?_
    rintro e w5 ⟨R0, S0, rfl, hI0, _, hok0, _, t5, hat0⟩
    unfold recC
    try simp only
    go_upto_region 41 with fail
    go_cut [146] from 139 to 249 (fun u146 wc => ∃ b : Bool, u146 = .bool b ∧ (b = true → 0 < n1) ∧ wc = (w5.alloc (.cells #[.int .i64 R0.lsn, .int .i64 R0.work, .int .i64 R0.prev, .int .i64 R0.next, .int .u8 R0.kind, .int .i64 R0.page, .slice S0.K.A S0.K.n S0.K.c, .slice S0.O.A S0.O.n S0.O.c, .slice S0.N.A S0.N.n S0.N.c, .slice S0.D.A S0.D.n S0.D.c, .slice S0.P.A S0.P.n S0.P.c] 39)))
    case first =>
      by_cases hr2 : r = 2
      · subst hr2
        by_cases hn1z : 0 < n1
        · have hn1d : decide ((0 : Int) < (n1 : Int)) = true := by simp; omega
          have hn1e : (0 : Int) < (n1 : Int) := by omega
          go_wp2_with fail
          go_meet
          exact ⟨true, rfl, fun _ => hn1z, rfl⟩
        · have hn1d : decide ((0 : Int) < (n1 : Int)) = false := by simp; omega
          have hn1e : ¬ (0 : Int) < (n1 : Int) := by omega
          go_wp2_with fail
          go_meet
          exact ⟨false, rfl, (fun e => by cases e), rfl⟩
      · have hr2d : (r == 2) = false := by rw [beq_eq_false_iff_ne]; exact hr2
        go_wp2_with fail
        go_meet
        exact ⟨false, rfl, (fun e => by cases e), rfl⟩
    case rest =>
      obtain ⟨b, rfl, hb, rfl⟩ := hcut
      go_upto_if 146 with fail
      go_cut [] from 147 to 249 (fun wc => ∃ R SR, Blk wc w5.heap.size 39 (recC R SR) ∧ RecIs wc R SR ∧ R.Ok ∧ (∀ i, SR.at i → i < w.heap.size ∨ wr.heap.size ≤ i) ∧ Turned (fun _ => False) wr wc)
      case first =>
        cases b
        · go_wp2_with fail
          go_meet
          exact ⟨R0, S0, Blk.new w5 _ _, hI0.turned ((Turned.refl (fun _ => False) w5).alloc _) (fun i _ e => e), hok0, fun i e => .inr (hat0 i e), t5.alloc _⟩
        · have hn1z := hb rfl
          obtain ⟨j, hqj, hjn⟩ : ∃ j : Nat, (q : Int).tmod (n1 : Int) = (j : Int) ∧ j < n1 := ⟨q % n1, by rw [Int.tmod_eq_emod_of_nonneg (by omega)]; omega, Nat.mod_lt _ (by omega)⟩
          have hjn2 : (j : Int) < (n1 : Int) := by omega
          have hn10 : ¬ (n1 : Int) = 0 := by omega
          have hn1q : ((n1 : Int) == 0) = false := by rw [beq_eq_false_iff_ne]; exact hn10
          obtain ⟨b1, f1, R, SR, rfl, hpl0, hI, hok, hat⟩ := H1.out.at_ (K.out.turned.and_ t5) hjn
          have hpl := hpl0.fresh ((Turned.refl (fun _ => False) w5).alloc (.cells #[.int .i64 R0.lsn, .int .i64 R0.work, .int .i64 R0.prev, .int .i64 R0.next, .int .u8 R0.kind, .int .i64 R0.page, .slice S0.K.A S0.K.n S0.K.c, .slice S0.O.A S0.O.n S0.O.c, .slice S0.N.A S0.N.n S0.N.c, .slice S0.D.A S0.D.n S0.D.c, .slice S0.P.A S0.P.n S0.P.c] 39))
          clear hpl0
          obtain ⟨y0, y1, y2, y3, y4, y5, y6, y7, y8, y9, y10⟩ := hpl.cells
          clear hpl
          have HI5 := Lib.hid (And.intro (hI : RecIs _ R SR) hok)
          have HA5 := Lib.hid hat
          clear hI hok hat hn1z hb
          go_wp2_with fail
          go_meet
          refine ⟨R, SR, Blk.new w5 _ _, HI5.out.1.turned ((Turned.refl (fun _ => False) w5).alloc _) (fun i _ e => e), HI5.out.2, fun i e => .inl (HA5.out i e), t5.alloc _⟩
      case rest =>
        obtain ⟨R, SR, hB, hI, hok, hat, t6⟩ := hcut
        generalize hw6 : wc = w6 at *
        clear hw6
        have hbx : wr.heap.size ≤ w5.heap.size := t5.size
        generalize hbb : w5.heap.size = bx at *
        clear hbb t5 hI0 hok0 hat0 hb
        have KF := Lib.hid (fun (w' : World) (t : Turned (fun _ => False) w6 w') => (K.out.fresh t6).fresh t)
        have HI := Lib.hid (fun (w' : World) (t : Turned (fun _ => False) w6 w') => hI.turned t (fun i _ e => e))
        have HKR := Lib.hid (fun (hr : rightR R = true) (w' : World) (t : Turned (fun _ => False) w6 w') => (KM.krec (r := (R, SR)) K.out t6 hI hr hok hat).step t (fun i e => e.elim) (fun i e => .inl e) (fun i o e => .inl ⟨o, e⟩))
        have BX := Lib.hid (show Blk w6 bx 39 #[.int .i64 R.lsn, .int .i64 R.work, .int .i64 R.prev, .int .i64 R.next, .int .u8 R.kind, .int .i64 R.page, .slice SR.K.A SR.K.n SR.K.c, .slice SR.O.A SR.O.n SR.O.c, .slice SR.N.A SR.N.n SR.N.c, .slice SR.D.A SR.D.n SR.D.c, .slice SR.P.A SR.P.n SR.P.c] from hB)
        have TX := Lib.hid (Turned.refl (fun _ => False) w6)
        have HXL := Lib.hid (fun i (e : X.own i) => show i < bx from Nat.lt_of_lt_of_le (K.out.log.lt e) hbx)
        clear hI hok hat t6 hB hbx
        obtain ⟨x0, x1, x2, x3, x4, x5, x6, x7, x8, x9, x10⟩ := BX.out.cells11
        go_wp2_with fail
        clear x0 x1 x2 x3 x4 x5 x6 x7 x8 x9 x10
        refine (small20_any R SR w6 (HI.out w6 TX.out)).mono ?_
        rintro e w7 ⟨sm, rfl, t7⟩
        have BY := Lib.hid (BX.out.turned t7 (fun e => e))
        have TY := Lib.hid (TX.out.and_ t7)
        clear t7 BX TX
        dsimp only
        cases sm
        · have KY := KF.out w7 TY.out
          go_wp2_with fail
          refine HC.out _ _ _ _ _ _ _ _ _ _ _ _ _ _ _ _ _ _ _ _ _ _ _ _ _ _ _ _ _ _ _ _ _ _ _ _ _ _ _ _ _ _ _ _ _ _ _ _ _ _ _ _ _ _ _ _ _ _ _ _ _ _ _ _ _ _ _ _ _ _ _ _ _ _ _ _ _ _ _ _ _ _ _ _ _ _ _ _ _ _ _ _ _ _ _ _ _ _ _ _ _ _ _ _ _ _ _ _ _ _ _ _ _ _ _ _ _ _ _ _ _ _ _ _ _ _ _ _ _ _ _ _ _ _ _ _ _ _ _ _ _ _ _ _ _ _ _ _ _ _ _ _ _ _ _ _ _ _ _ _ _ _ _ _ _ _ _ _ _ _ _ _ _ _ _ _ _ _ _ _ _ _ _ _ _ _ _ _ _ _ _ _ _ _ _ _ _ _ _ _ _ _ _ _ _ _ _ _ _ _ _ _ _ _ _ _ _ _ ?_
          exact ⟨T, X, A, c, rows, safe, D, E, rfl, rfl, rfl, rfl, KY, HD.out, HDN.out, HAR.out, HR.out.mono (Nat.le_succ i), Nat.le_succ_of_le HRL.out, by have := HT.out; omega⟩
        · have x0 : w7.cell? ⟨bx, 0, none⟩ = some (.int .i64 R.lsn) := BY.out.cell 0
          have x1 : w7.cell? ⟨bx, 1, none⟩ = some (.int .i64 R.work) := BY.out.cell 1
          have x2 : w7.cell? ⟨bx, 2, none⟩ = some (.int .i64 R.prev) := BY.out.cell 2
          have x3 : w7.cell? ⟨bx, 3, none⟩ = some (.int .i64 R.next) := BY.out.cell 3
          have x4 : w7.cell? ⟨bx, 4, none⟩ = some (.int .u8 R.kind) := BY.out.cell 4
          have x5 : w7.cell? ⟨bx, 5, none⟩ = some (.int .i64 R.page) := BY.out.cell 5
          have x6 : w7.cell? ⟨bx, 6, none⟩ = some (.slice SR.K.A SR.K.n SR.K.c) := BY.out.cell 6
          have x7 : w7.cell? ⟨bx, 7, none⟩ = some (.slice SR.O.A SR.O.n SR.O.c) := BY.out.cell 7
          have x8 : w7.cell? ⟨bx, 8, none⟩ = some (.slice SR.N.A SR.N.n SR.N.c) := BY.out.cell 8
          have x9 : w7.cell? ⟨bx, 9, none⟩ = some (.slice SR.D.A SR.D.n SR.D.c) := BY.out.cell 9
          have x10 : w7.cell? ⟨bx, 10, none⟩ = some (.slice SR.P.A SR.P.n SR.P.c) := BY.out.cell 10
          go_wp2_with fail
          clear x0 x1 x2 x3 x4 x5 x6 x7 x8 x9 x10
          refine (right_any R SR w7 (HI.out w7 TY.out)).mono ?_
          rintro e w8 ⟨rfl, t8⟩
          have BZ := Lib.hid (BY.out.turned t8 (fun e => e))
          have TZ := Lib.hid (TY.out.and_ t8)
          clear t8 BY TY
          dsimp only
          cases hrg : rightR R
          · have KY := KF.out w8 TZ.out
            go_wp2_with fail
            refine HC.out _ _ _ _ _ _ _ _ _ _ _ _ _ _ _ _ _ _ _ _ _ _ _ _ _ _ _ _ _ _ _ _ _ _ _ _ _ _ _ _ _ _ _ _ _ _ _ _ _ _ _ _ _ _ _ _ _ _ _ _ _ _ _ _ _ _ _ _ _ _ _ _ _ _ _ _ _ _ _ _ _ _ _ _ _ _ _ _ _ _ _ _ _ _ _ _ _ _ _ _ _ _ _ _ _ _ _ _ _ _ _ _ _ _ _ _ _ _ _ _ _ _ _ _ _ _ _ _ _ _ _ _ _ _ _ _ _ _ _ _ _ _ _ _ _ _ _ _ _ _ _ _ _ _ _ _ _ _ _ _ _ _ _ _ _ _ _ _ _ _ _ _ _ _ _ _ _ _ _ _ _ _ _ _ _ _ _ _ _ _ _ _ _ _ _ _ _ _ _ _ _ _ _ _ _ _ _ _ _ _ _ _ _ _ _ _ _ _ ?_
            exact ⟨T, X, A, c, rows, safe, D, E, rfl, rfl, rfl, rfl, KY, HD.out, HDN.out, HAR.out, HR.out.mono (Nat.le_succ i), Nat.le_succ_of_le HRL.out, by have := HT.out; omega⟩
          · have x0 : w8.cell? ⟨bx, 0, none⟩ = some (.int .i64 R.lsn) := BZ.out.cell 0
            have x1 : w8.cell? ⟨bx, 1, none⟩ = some (.int .i64 R.work) := BZ.out.cell 1
            have x2 : w8.cell? ⟨bx, 2, none⟩ = some (.int .i64 R.prev) := BZ.out.cell 2
            have x3 : w8.cell? ⟨bx, 3, none⟩ = some (.int .i64 R.next) := BZ.out.cell 3
            have x4 : w8.cell? ⟨bx, 4, none⟩ = some (.int .u8 R.kind) := BZ.out.cell 4
            have x5 : w8.cell? ⟨bx, 5, none⟩ = some (.int .i64 R.page) := BZ.out.cell 5
            have x6 : w8.cell? ⟨bx, 6, none⟩ = some (.slice SR.K.A SR.K.n SR.K.c) := BZ.out.cell 6
            have x7 : w8.cell? ⟨bx, 7, none⟩ = some (.slice SR.O.A SR.O.n SR.O.c) := BZ.out.cell 7
            have x8 : w8.cell? ⟨bx, 8, none⟩ = some (.slice SR.N.A SR.N.n SR.N.c) := BZ.out.cell 8
            have x9 : w8.cell? ⟨bx, 9, none⟩ = some (.slice SR.D.A SR.D.n SR.D.c) := BZ.out.cell 9
            have x10 : w8.cell? ⟨bx, 10, none⟩ = some (.slice SR.P.A SR.P.n SR.P.c) := BZ.out.cell 10
            go_wp2_with fail
            clear x0 x1 x2 x3 x4 x5 x6 x7 x8 x9 x10
            have hcall := km_append (r := (R, SR)) (KF.out w8 TZ.out) HR.out (HKR.out hrg w8 TZ.out) (by omega) (by have := HRL.out; omega)
            refine hcall.mono ?_
            clear hcall
            rintro e w9 (⟨X', lsn, hL, rfl, km, kr, rec, t9⟩ | ⟨rfl, km⟩)
            all_goals dsimp only
            · have BQ := Lib.hid (BZ.out.turned t9 (fun e => Nat.lt_irrefl _ (HXL.out _ e)))
              obtain ⟨x0, x1, x2, x3, x4, x5, x6, x7, x8, x9, x10⟩ := BQ.out.cells11
              have KM9 := Lib.hid km
              have KR9 := Lib.hid kr
              have RC9 := Lib.hid rec
              have HL9 := Lib.hid hL
              clear km kr rec hL t9 BZ TZ KF HI HKR HXL
              have ta := (Turned.refl (fun _ => False) w9).alloc (.cells #[.int .i64 R.lsn, .int .i64 R.work, .int .i64 R.prev, .int .i64 R.next, .int .u8 R.kind, .int .i64 R.page, .slice SR.K.A SR.K.n SR.K.c, .slice SR.O.A SR.O.n SR.O.c, .slice SR.N.A SR.N.n SR.N.c, .slice SR.D.A SR.D.n SR.D.c, .slice SR.P.A SR.P.n SR.P.c] 39)
              have KA := Lib.hid (KM9.out.fresh ta)
              clear ta
              go_wp2_with (at_builtin; go_loud (refine wpList_appO recT rfl (.tmp 171) (.tmp 173) rfl KA.out.all ⟨w9.heap.size, 0, none⟩ 1 1 (#[.int .i64 R.lsn, .int .i64 R.work, .int .i64 R.prev, .int .i64 R.next, .int .u8 R.kind, .int .i64 R.page, .slice SR.K.A SR.K.n SR.K.c, .slice SR.O.A SR.O.n SR.O.c, .slice SR.N.A SR.N.n SR.N.c, .slice SR.D.A SR.D.n SR.D.c, .slice SR.P.A SR.P.n SR.P.c]).toList rfl (new11 _ _ _ _ rfl) (by simp [Value.oneCell']) (by omega) (by have := HRL.out; unfold maxLen; omega) (by have := HRL.out; omega) rfl rfl ?_; intro A5 c5 w10 o5 a5; have H5 := Lib.hid (KM9.out.snoc RC9.out o5 a5); clear o5 a5))
              refine HK.out _ _ _ _ _ _ _ _ _ _ _ _ _ _ _ _ _ _ _ _ _ _ _ _ _ _ _ _ _ _ _ _ _ _ _ _ _ _ _ _ _ _ _ _ _ _ _ _ _ _ _ _ _ _ _ _ _ _ _ _ _ _ _ _ _ _ _ _ _ _ _ _ _ _ _ _ _ _ _ _ _ _ _ _ _ _ _ _ _ _ _ _ _ _ _ _ _ _ _ _ _ _ _ _ _ _ _ _ _ _ _ _ _ _ _ _ _ _ _ _ _ _ _ _ _ _ _ _ _ _ _ _ _ _ _ _ _ _ _ _ _ _ _ _ _ _ _ _ _ _ _ _ _ _ _ _ _ _ _ _ _ _ _ _ _ _ _ _ _ _ _ _ _ _ _ _ _ _ _ _ _ _ _ _ _ _ _ _ _ _ _ _ _ _ _ _ _ _ _ _ _ _ _ _ _ _ _ _ _ _ _ _ _ _ _ _ _ _ ?_
              exact ⟨T, X', A5, c5, rows ++ [(R, SR)], safe, D, E, rfl, by rw [HL9.out], by rw [List.length_append]; rfl, rfl, H5.out, HD.out, HDN.out, HAR.out, by rw [List.map_append]; exact KR9.out, by rw [List.length_append]; exact Nat.succ_le_succ HRL.out, by have := HT.out; omega⟩
            · have KY := km
              go_wp2_with fail
              refine HK.out _ _ _ _ _ _ _ _ _ _ _ _ _ _ _ _ _ _ _ _ _ _ _ _ _ _ _ _ _ _ _ _ _ _ _ _ _ _ _ _ _ _ _ _ _ _ _ _ _ _ _ _ _ _ _ _ _ _ _ _ _ _ _ _ _ _ _ _ _ _ _ _ _ _ _ _ _ _ _ _ _ _ _ _ _ _ _ _ _ _ _ _ _ _ _ _ _ _ _ _ _ _ _ _ _ _ _ _ _ _ _ _ _ _ _ _ _ _ _ _ _ _ _ _ _ _ _ _ _ _ _ _ _ _ _ _ _ _ _ _ _ _ _ _ _ _ _ _ _ _ _ _ _ _ _ _ _ _ _ _ _ _ _ _ _ _ _ _ _ _ _ _ _ _ _ _ _ _ _ _ _ _ _ _ _ _ _ _ _ _ _ _ _ _ _ _ _ _ _ _ _ _ _ _ _ _ _ _ _ _ _ _ _ _ _ _ _ _ ?_
              exact ⟨T, X, A, c, rows, safe, D, E, rfl, rfl, rfl, rfl, KY, HD.out, HDN.out, HAR.out, HR.out.mono (Nat.le_succ i), Nat.le_succ_of_le HRL.out, by have := HT.out; omega⟩
end Go.Proofs.YtfheikmjjijdpaaDoor

