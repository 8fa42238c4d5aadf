/-
  LogKeeps: the check behind a step. Condition: the state stands.
-/
import Derived.Test.YtfheikmjjijdpaaDoorQKmX
import Derived.Test.YtfheikmjjijdpaaDoorQBeP
namespace Go.Proofs.YtfheikmjjijdpaaDoor
open Go.RowKit Go.Maps Go.Proofs
set_option linter.unusedVariables false
set_option linter.unusedSimpArgs false

/-- Rows that From gave, against the records that are kept. -/
structure KRows (w : World) (A : Option Addr) (rows rws : List (Rec × RecS)) : Prop where
  len : rws.length = rows.length
  cel : CelR w A (rows.length * 11) (rcells rws)
  recs : ∀ r ∈ rws, RecIs w r.1 r.2
  bare : ∀ (j : Nat) (r r' : Rec × RecS), rows[j]? = some r → rws[j]? = some r' → r'.1.bare = r.1.bare
theorem KRows.of_rows {w wr : World} {A : Option Addr} {c : Nat} {ls : List Int} {rows rws : List (Rec × RecS)} (h : RowsAt w A ls.length c rws wr) (hm : rws.map Prod.fst = recsX ls (rows.map Prod.fst)) (hl : ls.length = rows.length) : KRows wr A rows rws := by
  have h1 := h.len
  refine ⟨by omega, by rw [← hl]; exact h.own.celR, fun r hr => (h.recs r hr).is, fun j r r' e1 e2 => ?_⟩
  have h3 : (rws.map Prod.fst)[j]? = (recsX ls (rows.map Prod.fst))[j]? := by rw [hm]
  have hj := (List.getElem?_eq_some_iff.1 e1).1
  unfold recsX at h3
  rw [List.getElem?_zipWith, List.getElem?_map, List.getElem?_map, e1, e2, List.getElem?_eq_getElem (l := ls) (by omega)] at h3
  simp only [Option.map_some, Option.some.injEq] at h3
  rw [h3]
  rfl
theorem KRows.none_ (w : World) : KRows w none [] [] := ⟨rfl, CelR.none_ w, by simp, by simp⟩
theorem KRows.at_ {w0 w wr : World} {d ms mo c : Nat} {D : DA} {X : LgM} {A A' : Option Addr} {rows rws : List (Rec × RecS)} (h : KRows w A' rows rws) (K : KM w0 w d ms mo D X A c rows) (t : Turned (fun _ => False) w wr) {j : Nat} (hj : j < rows.length) :
    ∃ g o g' o' R S R' S', A = some ⟨g, o, none⟩ ∧ A' = some ⟨g', o', none⟩ ∧ RecPl wr g (o + j * 11) R S ∧ RecPl wr g' (o' + j * 11) R' S' ∧ R'.bare = R.bare ∧ RecIs wr R S ∧ RecIs wr R' S' := by
  have hl := h.len
  obtain ⟨r, hr⟩ : ∃ r, rows[j]? = some r := ⟨_, List.getElem?_eq_getElem hj⟩
  obtain ⟨r', hr'⟩ : ∃ r, rws[j]? = some r := ⟨_, List.getElem?_eq_getElem (by omega)⟩
  have hc := K.all.celR
  obtain ⟨g, o, e, _⟩ := hc.cell (by omega)
  obtain ⟨g', o', e', _⟩ := h.cel.cell (by omega)
  have hc' := h.cel
  subst e e'
  exact ⟨g, o, g', o', r.1, r.2, r'.1, r'.2, rfl, rfl, (CelR.recPl hc hr hj).fresh t, (CelR.recPl hc' hr' hj).fresh t, h.bare j r r' hr hr', (K.recs r (List.mem_of_getElem? hr)).is.turned t (fun i _ e => e), (h.recs r' (List.mem_of_getElem? hr')).turned t (fun i _ e => e)⟩
set_option maxRecDepth 1000000 in
set_option maxHeartbeats 8000000 in
theorem kw_chk {A0 : Option Addr} {n0 c0 : Nat} {A1 : Option Addr} {n1 c1 : Nat} {A2 : Option Addr} {n2 c2 d ms mo i : Nat} {rs : List (Rec × RecS)} {w wr : World} {Q : Exit → Act → World → Prop} {c3 c4 c5 u6 u8 u9 c10 u11 u12 u14 u15 u16 u17 u18 u19 u20 u21 u22 u23 u24 u25 u26 u27 c28 c29 c30 c31 c32 c33 c34 c35 c36 c37 c38 c39 c40 c41 c42 c43 c44 c45 c46 c47 c48 c49 c50 c51 u52 u53 u54 u55 u56 u57 u58 u59 u60 u61 u62 u63 u64 u65 u66 u67 u68 u69 u70 u71 u72 u73 u74 u75 u76 u77 u78 u79 u80 u81 u82 u83 u84 u85 u86 u87 u88 u89 u90 u91 u92 u93 u94 u95 u96 u97 u98 u99 u100 u101 u102 u103 u104 u105 u106 u107 u108 u109 u110 u111 u112 u113 u114 u115 u116 u117 u118 u119 u120 u121 u122 u123 u124 u125 u126 u127 u128 u129 u130 u131 u132 u133 u134 u135 u136 u137 u138 u139 u140 u141 u142 u143 u144 u145 u146 u147 u148 u149 u150 u151 u152 u153 u154 u155 u156 u157 u158 u159 u160 u161 u162 u163 u164 u165 u166 u167 u168 u169 u170 u171 u172 u173 u174 u175 u176 u177 u178 u179 u180 u181 u182 u183 u184 u185 u186 u187 u188 u189 u190 u191 u192 u193 u194 u195 u196 u197 u198 u199 u200 u201 u202 u203 u204 u205 u206 u207 u208 u209 u210 u211 u212 u213 u214 u215 u216 u217 u218 u219 u220 u221 u222 u223 u224 u225 u226 u227 u228 u229 u230 u231 u232 u233 u234 u235 u236 u237 u238 u239 u240 u241 u242 u243 u244 u245 u246 u247 u248 u249 : Value} (hi : i < 100) (hst : KSt w d ms mo (i + 1) u8 u9 u11 u12 wr) (hK : ∀ (v6 v8 v9 v11 v12 v14 v15 v16 v17 v18 v19 v20 v21 v22 v23 v24 v25 v26 v27 v52 v53 v54 v55 v56 v57 v58 v59 v60 v61 v62 v63 v64 v65 v66 v67 v68 v69 v70 v71 v72 v73 v74 v75 v76 v77 v78 v79 v80 v81 v82 v83 v84 v85 v86 v87 v88 v89 v90 v91 v92 v93 v94 v95 v96 v97 v98 v99 v100 v101 v102 v103 v104 v105 v106 v107 v108 v109 v110 v111 v112 v113 v114 v115 v116 v117 v118 v119 v120 v121 v122 v123 v124 v125 v126 v127 v128 v129 v130 v131 v132 v133 v134 v135 v136 v137 v138 v139 v140 v141 v142 v143 v144 v145 v146 v147 v148 v149 v150 v151 v152 v153 v154 v155 v156 v157 v158 v159 v160 v161 v162 v163 v164 v165 v166 v167 v168 v169 v170 v171 v172 v173 v174 v175 v176 v177 v178 v179 v180 v181 v182 v183 v184 v185 v186 v187 v188 v189 v190 v191 v192 v193 v194 v195 v196 v197 v198 v199 v200 v201 v202 v203 v204 v205 v206 v207 v208 v209 v210 v211 v212 v213 v214 v215 v216 v217 v218 v219 v220 v221 v222 v223 v224 v225 v226 v227 v228 v229 v230 v231 v232 v233 v234 v235 v236 v237 v238 v239 v240 v241 v242 v243 v244 v245 v246 v247 v248 v249 : Value) (wc : World), KSt w d ms mo (i + 1) v8 v9 v11 v12 wc → Q .normal ⟨#[.slice A0 n0 c0, .slice A1 n1 c1, .slice A2 n2 c2, c3, c4, c5, v6, .pointer (some ⟨d, 0, none⟩), v8, v9, c10, v11, v12, .int .i64 i, v14, v15, v16, v17, v18, v19, v20, v21, v22, v23, v24, v25, v26, v27, c28, c29, c30, c31, c32, c33, c34, c35, c36, c37, c38, c39, c40, c41, c42, c43, c44, c45, c46, c47, c48, c49, c50, c51, v52, v53, v54, v55, v56, v57, v58, v59, v60, v61, v62, v63, v64, v65, v66, v67, v68, v69, v70, v71, v72, v73, v74, v75, v76, v77, v78, v79, v80, v81, v82, v83, v84, v85, v86, v87, v88, v89, v90, v91, v92, v93, v94, v95, v96, v97, v98, v99, v100, v101, v102, v103, v104, v105, v106, v107, v108, v109, v110, v111, v112, v113, v114, v115, v116, v117, v118, v119, v120, v121, v122, v123, v124, v125, v126, v127, v128, v129, v130, v131, v132, v133, v134, v135, v136, v137, v138, v139, v140, v141, v142, v143, v144, v145, v146, v147, v148, v149, v150, v151, v152, v153, v154, v155, v156, v157, v158, v159, v160, v161, v162, v163, v164, v165, v166, v167, v168, v169, v170, v171, v172, v173, v174, v175, v176, v177, v178, v179, v180, v181, v182, v183, v184, v185, v186, v187, v188, v189, v190, v191, v192, v193, v194, v195, v196, v197, v198, v199, v200, v201, v202, v203, v204, v205, v206, v207, v208, v209, v210, v211, v212, v213, v214, v215, v216, v217, v218, v219, v220, v221, v222, v223, v224, v225, v226, v227, v228, v229, v230, v231, v232, v233, v234, v235, v236, v237, v238, v239, v240, v241, v242, v243, v244, v245, v246, v247, v248, v249], []⟩ wc) (hP : ∀ ch a dd v w, Q (.panic ch) (Act.put a (some dd) v) w → Q (.panic ch) a w) : Code.wp Tryd.prog kChk Q ⟨#[.slice A0 n0 c0, .slice A1 n1 c1, .slice A2 n2 c2, c3, c4, c5, u6, .pointer (some ⟨d, 0, none⟩), u8, u9, c10, u11, u12, .int .i64 i, u14, u15, u16, u17, u18, u19, u20, u21, u22, u23, u24, u25, u26, u27, c28, c29, c30, c31, c32, c33, c34, c35, c36, c37, c38, c39, c40, c41, c42, c43, c44, c45, c46, c47, c48, c49, c50, c51, u52, u53, u54, u55, u56, u57, u58, u59, u60, u61, u62, u63, u64, u65, u66, u67, u68, u69, u70, u71, u72, u73, u74, u75, u76, u77, u78, u79, u80, u81, u82, u83, u84, u85, u86, u87, u88, u89, u90, u91, u92, u93, u94, u95, u96, u97, u98, u99, u100, u101, u102, u103, u104, u105, u106, u107, u108, u109, u110, u111, u112, u113, u114, u115, u116, u117, u118, u119, u120, u121, u122, u123, u124, u125, u126, u127, u128, u129, u130, u131, u132, u133, u134, u135, u136, u137, u138, u139, u140, u141, u142, u143, u144, u145, u146, u147, u148, u149, u150, u151, u152, u153, u154, u155, u156, u157, u158, u159, u160, u161, u162, u163, u164, u165, u166, u167, u168, u169, u170, u171, u172, u173, u174, u175, u176, u177, u178, u179, u180, u181, u182, u183, u184, u185, u186, u187, u188, u189, u190, u191, u192, u193, u194, u195, u196, u197, u198, u199, u200, u201, u202, u203, u204, u205, u206, u207, u208, u209, u210, u211, u212, u213, u214, u215, u216, u217, u218, u219, u220, u221, u222, u223, u224, u225, u226, u227, u228, u229, u230, u231, u232, u233, u234, u235, u236, u237, u238, u239, u240, u241, u242, u243, u244, u245, u246, u247, u248, u249], []⟩ wr := by
  have HK := Lib.hid hK
  have HP := Lib.hid hP
  clear hK hP
  conv => arg 2; whnf
  have mixed : Tryd.prog.follows .mixedOrders = true := by kernel_rfl
  obtain ⟨T, X, A, c, rows, safe, D, E, rfl, rfl, rfl, rfl, hk, hD, hdn, har, hrel, hrl, hT⟩ := hst
  have K := Lib.hid hk
  have HD := Lib.hid hD
  have HDN := Lib.hid hdn
  have HAR := Lib.hid har
  have HR := Lib.hid hrel
  have HRL := Lib.hid hrl
  have HT := Lib.hid hT
  have HS := Lib.hid hrel.safeLe
  have HT1 := Lib.hid hrel.T1
  clear hk hD hdn har hrel hrl hT
  go_upto_if 222 with fail
  go_cut [26] from 223 to 249 (fun u26 wc => ∃ A1 c1 rws, u26 = .slice A1 rows.length c1 ∧ KRows wc A1 rows rws ∧ Turned (fun _ => False) wr wc)
  case first =>
    by_cases hz : rows = []
    · subst hz
      go_wp2_with fail
      go_meet
      exact ⟨none, 0, [], rfl, KRows.none_ _, Turned.refl _ _⟩
    · have hpos : 0 < rows.length := List.length_pos_iff.2 hz
      have hpd : decide ((0 : Int) < (rows.length : Int)) = true := by simp; exact hpos
      have hpi : (0 : Int) < (rows.length : Int) := by omega
      have HZ := Lib.hid hz
      clear hz
      go_wp2_with fail
      refine (km_first K.out.log HR.out (by have := HRL.out; omega)).mono ?_
      rintro e w5 ⟨rfl, t5⟩
      dsimp only
      have K5 := Lib.hid (K.out.fresh t5)
      have T5 := Lib.hid t5
      clear t5
      go_wp2_with fail
      refine (km_from K5.out.log HR.out (by have := HRL.out; omega) HZ.out).mono ?_
      rintro e w6 ⟨A', c', rws, rfl, hmap, hra⟩
      dsimp only
      have hll : X.ls.length = rows.length := by have := HR.out.lsLen; rw [List.length_map] at this; exact this
      have KRW := Lib.hid (KRows.of_rows hra hmap hll)
      have T6 := Lib.hid (T5.out.and_ hra.turned)
      rw [hll]
      clear hra hmap hll K5
      go_wp2_with fail
      go_meet
      exact ⟨A', c', rws, rfl, KRW.out, T6.out⟩
  case rest =>
    obtain ⟨A', c', rws, rfl, hkr, hwc⟩ := hcut
    have KRW := Lib.hid hkr
    have KC := Lib.hid (K.out.fresh hwc)
    have hlen100 : (rows.length : Int) ≤ 100 := by have := HRL.out; omega
    have hnn : ((rows.length : Int) != (rows.length : Int)) = false := by simp
    clear hkr hwc K
    go_wp2_with fail
    go_loopw [27] (fun v wr2 => ∃ j : Nat, j ≤ rows.length ∧ v = .int .i64 j ∧ Turned (fun _ => False) wc wr2) (fun v _ => rows.length - (intOf v).toNat)
    case atStart => exact ⟨0, Nat.zero_le _, rfl, Turned.refl _ _⟩
    case round =>
      obtain ⟨j, hj, rfl, tj⟩ := hrel
      by_cases hlt : j < rows.length
      · have hji : (j : Int) < (rows.length : Int) := by omega
        have hj100 : (j : Int) < 100 := by omega
        obtain ⟨g, o, g', o', R, S, R', S', rfl, rfl, hp, hq, hb, hI, hI'⟩ := KRW.out.at_ KC.out tj hlt
        have HB := Lib.hid hb
        have hS := And.intro hp hq
        have HI := Lib.hid (And.intro hI hI')
        have TJ := Lib.hid tj
        clear hb hp hq hI hI' tj
        go_upto_region 68 with fail
        refine wp_region_segs (fun w' => (RecPl w' g (o + j * 11) R S ∧ RecPl w' g' (o' + j * 11) R' S')) (segT [0, 1, 2, 3, 4, 5, 6, 7] ++ segF [8] ++ segT [9]) mixed (by kernel_rfl) (fun _ _ _ _ _ h => HP.out _ _ _ _ _ h) ?_
        simp only [segT, segF, pickSegs, List.map_cons, List.map_nil, List.cons_append, List.nil_append, List.filterMap_cons, List.filterMap_nil, List.getElem?_cons_zero, List.getElem?_cons_succ, Option.map_some]
        have TD := Lib.hid TJ.out.drew
        skip
        have HID := Lib.hid (And.intro (HI.out.1.turned ((Turned.refl (fun _ => False) _).drew) (fun i _ e => e)) (HI.out.2.turned ((Turned.refl (fun _ => False) _).drew) (fun i _ e => e)))
        (refine wpSegs_take (v := ?_) hS rfl (fun w' hw => ?_) ?_; rotate_left; (obtain ⟨hp, hq⟩ := hw; obtain ⟨c0, c1, c2, c3, c4, c5, c6, c7, c8, c9, c10⟩ := hp.cells; obtain ⟨d0, d1, d2, d3, d4, d5, d6, d7, d8, d9, d10⟩ := hq.cells; clear hp hq; (focus (go_simp; (try with_reducible rfl); done))); try simp only [Act.put, List.setIfInBounds_toArray, List.set_cons_zero, List.set_cons_succ])
        (refine wpSegs_take (v := ?_) hS rfl (fun w' hw => ?_) ?_; rotate_left; (obtain ⟨hp, hq⟩ := hw; obtain ⟨c0, c1, c2, c3, c4, c5, c6, c7, c8, c9, c10⟩ := hp.cells; obtain ⟨d0, d1, d2, d3, d4, d5, d6, d7, d8, d9, d10⟩ := hq.cells; clear hp hq; (focus (go_simp; (try with_reducible rfl); done))); try simp only [Act.put, List.setIfInBounds_toArray, List.set_cons_zero, List.set_cons_succ])
        (refine wpSegs_take (v := ?_) hS rfl (fun w' hw => ?_) ?_; rotate_left; (obtain ⟨hp, hq⟩ := hw; obtain ⟨c0, c1, c2, c3, c4, c5, c6, c7, c8, c9, c10⟩ := hp.cells; obtain ⟨d0, d1, d2, d3, d4, d5, d6, d7, d8, d9, d10⟩ := hq.cells; clear hp hq; (focus (go_simp; (try with_reducible rfl); done))); try simp only [Act.put, List.setIfInBounds_toArray, List.set_cons_zero, List.set_cons_succ])
        (refine wpSegs_take (v := ?_) hS rfl (fun w' hw => ?_) ?_; rotate_left; (obtain ⟨hp, hq⟩ := hw; obtain ⟨c0, c1, c2, c3, c4, c5, c6, c7, c8, c9, c10⟩ := hp.cells; obtain ⟨d0, d1, d2, d3, d4, d5, d6, d7, d8, d9, d10⟩ := hq.cells; clear hp hq; (focus (go_simp; (try with_reducible rfl); done))); try simp only [Act.put, List.setIfInBounds_toArray, List.set_cons_zero, List.set_cons_succ])
        (refine wpSegs_take (v := ?_) hS rfl (fun w' hw => ?_) ?_; rotate_left; (obtain ⟨hp, hq⟩ := hw; obtain ⟨c0, c1, c2, c3, c4, c5, c6, c7, c8, c9, c10⟩ := hp.cells; obtain ⟨d0, d1, d2, d3, d4, d5, d6, d7, d8, d9, d10⟩ := hq.cells; clear hp hq; (focus (go_simp; (try with_reducible rfl); done))); try simp only [Act.put, List.setIfInBounds_toArray, List.set_cons_zero, List.set_cons_succ])
        (refine wpSegs_take (v := ?_) hS rfl (fun w' hw => ?_) ?_; rotate_left; (obtain ⟨hp, hq⟩ := hw; obtain ⟨c0, c1, c2, c3, c4, c5, c6, c7, c8, c9, c10⟩ := hp.cells; obtain ⟨d0, d1, d2, d3, d4, d5, d6, d7, d8, d9, d10⟩ := hq.cells; clear hp hq; (focus (go_simp; (try with_reducible rfl); done))); try simp only [Act.put, List.setIfInBounds_toArray, List.set_cons_zero, List.set_cons_succ])
        (refine wpSegs_take (v := ?_) hS rfl (fun w' hw => ?_) ?_; rotate_left; (obtain ⟨hp, hq⟩ := hw; obtain ⟨c0, c1, c2, c3, c4, c5, c6, c7, c8, c9, c10⟩ := hp.cells; obtain ⟨d0, d1, d2, d3, d4, d5, d6, d7, d8, d9, d10⟩ := hq.cells; clear hp hq; (focus (go_simp; (try with_reducible rfl); done))); try simp only [Act.put, List.setIfInBounds_toArray, List.set_cons_zero, List.set_cons_succ])
        (refine wpSegs_take (v := ?_) hS rfl (fun w' hw => ?_) ?_; rotate_left; (obtain ⟨hp, hq⟩ := hw; obtain ⟨c0, c1, c2, c3, c4, c5, c6, c7, c8, c9, c10⟩ := hp.cells; obtain ⟨d0, d1, d2, d3, d4, d5, d6, d7, d8, d9, d10⟩ := hq.cells; clear hp hq; (focus (go_simp; (try with_reducible rfl); done))); try simp only [Act.put, List.setIfInBounds_toArray, List.set_cons_zero, List.set_cons_succ])
        refine wpSegs_run rfl (fun K hK => ?_)
        go_simp
        refine (alike_any R' R S' S _ HB.out HID.out.2 HID.out.1).mono ?_
        rintro e v1 ⟨rfl, t1⟩
        have T4 := Lib.hid (TD.out.and_ t1)
        have hS2 := And.intro (hS.1.fresh (((Turned.refl (fun _ => False) _).drew).and_ t1)) (hS.2.fresh (((Turned.refl (fun _ => False) _).drew).and_ t1))
        clear t1
        refine hK.out _ _ hS2 ?_
        clear hK K hS
        have hS := hS2
        clear hS2
        try simp only [Act.put, List.setIfInBounds_toArray, List.set_cons_zero, List.set_cons_succ]
        (refine wpSegs_take (v := ?_) hS rfl (fun w' hw => ?_) ?_; rotate_left; (obtain ⟨hp, hq⟩ := hw; obtain ⟨c0, c1, c2, c3, c4, c5, c6, c7, c8, c9, c10⟩ := hp.cells; obtain ⟨d0, d1, d2, d3, d4, d5, d6, d7, d8, d9, d10⟩ := hq.cells; clear hp hq; (focus (go_simp; (try with_reducible rfl); done))); try simp only [Act.put, List.setIfInBounds_toArray, List.set_cons_zero, List.set_cons_succ])
        refine wpSegs_nil ?_
        clear hS
        have R9 := Lib.hid (show ∃ j9 : Nat, j9 ≤ rows.length ∧ Value.int .i64 ((j + 1 : Nat) : Int) = .int .i64 j9 ∧ Turned (fun _ => False) wc v1 from ⟨j + 1, hlt, rfl, T4.out⟩)
        go_wp2_with fail
        go_roundw
        case rel =>
          first
          | exact R9.out
          | ((repeat apply Exists.intro); exact ⟨R9.out, rfl⟩)
        case measure => simp [intOf] <;> omega
      · have hji : ¬ (j : Int) < (rows.length : Int) := by omega
        have KE := Lib.hid (KC.out.fresh tj)
        go_wp2_with fail
        refine HK.out _ _ _ _ _ _ _ _ _ _ _ _ _ _ _ _ _ _ _ _ _ _ _ _ _ _ _ _ _ _ _ _ _ _ _ _ _ _ _ _ _ _ _ _ _ _ _ _ _ _ _ _ _ _ _ _ _ _ _ _ _ _ _ _ _ _ _ _ _ _ _ _ _ _ _ _ _ _ _ _ _ _ _ _ _ _ _ _ _ _ _ _ _ _ _ _ _ _ _ _ _ _ _ _ _ _ _ _ _ _ _ _ _ _ _ _ _ _ _ _ _ _ _ _ _ _ _ _ _ _ _ _ _ _ _ _ _ _ _ _ _ _ _ _ _ _ _ _ _ _ _ _ _ _ _ _ _ _ _ _ _ _ _ _ _ _ _ _ _ _ _ _ _ _ _ _ _ _ _ _ _ _ _ _ _ _ _ _ _ _ _ _ _ _ _ _ _ _ _ _ _ _ _ _ _ _ _ _ _ _ _ _ _ _ _ _ _ _ ?_
        exact ⟨T, X, A, c, rows, safe, D, E, rfl, rfl, rfl, rfl, KE.out, HD.out, HDN.out, HAR.out, HR.out, HRL.out, HT.out⟩
end Go.Proofs.YtfheikmjjijdpaaDoor

