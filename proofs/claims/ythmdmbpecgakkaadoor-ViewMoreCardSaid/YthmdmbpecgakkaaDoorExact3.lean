/- exact's vectors and normals, by the reckoner. -/
import Derived.Test.YthmdmbpecgakkaaDoorSpec
namespace Go.Proofs.YthmdmbpecgakkaaDoor
open Go.RowKit
set_option maxRecDepth 100000

theorem smI {n : Int} (h : IR n) : Sm 64 n := Sm.int h.1 h.2
theorem sm0 : Sm 0 0 := by unfold Sm; decide
def dX : Dn
 | [.agg [.int x hx, .int _ _, .int _ _]] => some (none, .c (.int x hx))
 | _ => none
def dY : Dn
 | [.agg [.int _ _, .int y hy, .int _ _]] => some (none, .c (.int y hy))
 | _ => none
def dZ : Dn
 | [.agg [.int _ _, .int _ _, .int z hz]] => some (none, .c (.int z hz))
 | _ => none
def base1 : List (FuncId × Dn) := base
theorem base1_ok : AllOk base1 := base_ok
def dFar : Dn
 | [.agg [.int x1 h1, .int y1 h2, .int z1 h3], .agg [.int x2 h4, .int y2 h5, .int z2 h6]] =>
  some (none, .agg [.wid 129 (x2 - x1) (sm_subj (smI h4) (smI h1)), .wid 129 (y2 - y1) (sm_subj (smI h5) (smI h2)), .wid 129 (z2 - z1) (sm_subj (smI h6) (smI h3))])
 | _ => none
end Go.Proofs.YthmdmbpecgakkaaDoor
