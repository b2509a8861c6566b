/- What these functions come to, part 2. -/
import Derived.Test.YtomceidbdkdmlaaGreatDoorV1
import Derived.Test.YtomceidbdkdmlaaGreatDoorV2
import Derived.Test.YtomceidbdkdmlaaGreatDoorV3
import Derived.Test.YtomceidbdkdmlaaGreatDoorFExactRoutesText1
import Derived.Test.YtomceidbdkdmlaaGreatDoorFExactRoutesText2
import Derived.Test.YtomceidbdkdmlaaGreatDoorEExactRoutesText1
open Go Go.VM
set_option maxRecDepth 100000
namespace Go.RX
theorem laws_eqRouteS.ev (l m : List ((ByteArray) × ((List ((ByteArray) × ((Int) × ((ByteArray) × (Unit))))) × ((List (ByteArray)) × ((Int) × ((Int) × ((Int) × ((List (Int)) × ((Bool) × ((Int) × (Unit))))))))))) (hl : Sm 1048576 (.sl false (.pair .str (.pair (.sl false (.pair .str (.pair (.int .i64) (.pair .str .unit)))) (.pair (.sl false .str) (.pair (.int .i64) (.pair (.int .i64) (.pair (.int .i64) (.pair (.sl false (.int .i64)) (.pair .bool (.pair (.int .i64) .unit)))))))))) l) (hm : Sm 1048576 (.sl false (.pair .str (.pair (.sl false (.pair .str (.pair (.int .i64) (.pair .str .unit)))) (.pair (.sl false .str) (.pair (.int .i64) (.pair (.int .i64) (.pair (.int .i64) (.pair (.sl false (.int .i64)) (.pair .bool (.pair (.int .i64) .unit)))))))))) m) : Ev (fun n => laws_eqRouteS n l m) (eqB l m) := by
  refine Ev.step ?_
  simp only [laws_eqRouteS.step]
  refine Ev.cnd (fun h => Ev.pure' (eqB_no fun e => by subst e; simp at h).symm) fun h => ?_
  replace h : l.length = m.length := by simp at h; omega
  exact laws_eqRouteS.loop l m hl hm h l.length 0 (by omega) (by omega)
theorem laws_FnExactRoutesText.ev (l : List RTE) (hw : Wf (.sl false RTU) l) : Ev (fun n => laws_FnExactRoutesText n l) true := by
  refine Ev.step ?_
  simp only [laws_FnExactRoutesText.step]
  obtain ⟨r, h1, h2, h3⟩ := laws_szRouteS.ev l 1048576 (by omega) (by omega) hw
  refine Ev.bind h1 (Ev.cnd (fun _ => Ev.pure) fun c => ?_)
  have hs := h3 (by simpa using c)
  refine Ev.bind (laws_toRouteS.ev l hs) (Ev.bind (spec_RoutesText.ev l hs) (Ev.bind (laws_toRouteS.ev l hs) (Ev.bind (impl_RoutesText.ev l hs) (Ev.no (by simp [seq]) (Ev.bind (laws_toRouteS.ev l hs) (Ev.bind (laws_eqRouteS.ev l l hs hs) (Ev.no (by simp [eqB]) Ev.pure)))))))
end Go.RX
