/- law 24: Fits. -/
import Derived.Test.YthmdmbpecgakkaaDoorVW6
namespace Go.Proofs.YthmdmbpecgakkaaDoor
open Go.RowKit
set_option maxRecDepth 100000

def baseW6 : List (FuncId × Dn) := (6, dSan24) :: baseW5
theorem baseW6_ok : AllOk baseW6 := .cons spSan24 baseW5_ok
theorem minI_comm (a b : Int) : minI a b = minI b a := by unfold minI; split <;> split <;> omega
theorem maxI_comm (a b : Int) : maxI a b = maxI b a := by unfold maxI; split <;> split <;> omega
theorem d2V_swap (lx ly lz hx hy hz g ex ey ez : Int) : d2V hx hy hz lx ly lz g ex ey ez = d2V lx ly lz hx hy hz g ex ey ez := by
 unfold d2V axV
 rw [minI_comm hx, minI_comm hy, minI_comm hz, maxI_comm hx, maxI_comm hy, maxI_comm hz]
def dLFits : Dn
 | [.agg [.int _ _, .int _ _, .int _ _, .int _ _, .int _ _], .agg [.int _ _, .int _ _, .int _ _, .int _ _, .int _ _, .int _ _], .c (.int _ _)] =>
  some (none, .c (.val (.bool true)))
 | _ => none
set_option maxHeartbeats 4000000 in
theorem spLFits : SpOk Tryd.prog 3 dLFits := sp_of2 (un := 20) (n := 0) ⟨Tryd.func3, by kernel_rfl, by kernel_rfl⟩ baseW6_ok noF_ok fun args p v hd => by
 unfold dLFits at hd
 split at hd
 ·rename_i ex hex ey hey ez hez f hf p hp lx hlx ly hly lz hlz hx hhx hy hhy hz hhz err herr
  cases hd
  refine ⟨[.agg [.int ex hex, .int ey hey, .int ez hez, .int f hf, .int p hp], .agg [.int lx hlx, .int ly hly, .int lz hlz, .int hx hhx, .int hy hhy, .int hz hhz], .c (.int err herr)], fun _=>rfl,fun _ _=>rfl,fun _ _=>rfl,fun _ => ?_⟩
  conv => whnf
  refine bcase_intro (fun hq => ?_) (fun hq => ?_)
  ·conv => whnf
   exact fun ρ => sbool_e (by rw [d2V_swap]; simp) ρ
  ·have hq : (wthB f p (d2V lx ly lz hx hy hz 0 ex ey ez) err == wthB f p (d2V lx ly lz hx hy hz 0 ex ey ez) err) = false := hq
   exact absurd hq (by simp)
 ·cases hd
end Go.Proofs.YthmdmbpecgakkaaDoor
