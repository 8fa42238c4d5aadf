/-
 The document's Right (storemanref13): whether a command is right. No condition but numbers.
-/
import Derived.Test.YtglojnmcbochaaaGreatDoorUAskEi
import Derived.Test.YtglojnmcbochaaaGreatDoorUAskEj
import Derived.Test.YtglojnmcbochaaaGreatDoorUAskEk
import Derived.Test.YtglojnmcbochaaaGreatDoorUAskEl
import Derived.Test.YtglojnmcbochaaaGreatDoorURegD
import Derived.StillTailTactics
import Derived.Deep.CutRange
namespace Go.Proofs.YtglojnmcbochaaaGreatDoor
open Go.RowKit Go.Maps
set_option linter.unusedVariables false
set_option linter.unusedSimpArgs false

set_option maxRecDepth 100000 in
set_option maxHeartbeats 4000000 in
theorem rright13_any (a : AskV) (S : AskS) (w : World) (hI : AskIs w a S) (hOk : a.Ok) : Calls Tryz.prog 79 #[.agg (askC a S)] w (RetNew (.bool (rightA a)) w) := by
 cases hf : fieldsK a.kind with
 | none =>
  have e' := hZ (show rightA a = false from by unfold rightA; rw [hf])
  have hF := hZ (fun (w' : World) => rfields_any a.kind w' hOk.kind)
  rw [fields_none hf] at hF
  obtain ⟨kind, request, item, qty, day, days, rank, lot, line, parts, others⟩ := a
  obtain ⟨⟨PA, Pn, Pc⟩, ⟨OA, On, Oc⟩⟩ := S
  clear hI hOk hf
  unfold askC strV
  simp only at hF ⊢
  go_enter Tryz.func79, Tryz.ntmps79
  go_wp2_with fail
  refine (hF.out _).mono ?_
  rintro e w9 ⟨rfl, rfl⟩
  go_wp2_with fail
  go_ret
  exact ⟨ret_bool e'.out.symm, (Turned.refl (fun _ => False) w).alloc _⟩
 | some f =>
  have hk := fieldsK_kinds hf
  unfold kindsL at hk
  simp only [List.mem_cons, List.not_mem_nil, or_false] at hk
  rcases hk with rfl | rfl | rfl | rfl | rfl | rfl | rfl | rfl | rfl | rfl | rfl
  ·exact rright_0 a S w hI hOk hf
  ·exact rright_1 a S w hI hOk hf
  ·exact rright_2 a S w hI hOk hf
  ·exact rright_3 a S w hI hOk hf
  ·exact rright_4 a S w hI hOk hf
  ·exact rright_5 a S w hI hOk hf
  ·exact rright_6 a S w hI hOk hf
  ·exact rright_7 a S w hI hOk hf
  ·exact rright_8 a S w hI hOk hf
  ·exact rright_9 a S w hI hOk hf
  ·exact rright_10 a S w hI hOk hf
end Go.Proofs.YtglojnmcbochaaaGreatDoor

