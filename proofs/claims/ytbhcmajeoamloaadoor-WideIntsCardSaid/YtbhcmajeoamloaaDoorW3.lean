/- law 01: WideProducts. -/
import Derived.Test.YtbhcmajeoamloaaDoorLwa
namespace Go.Proofs.YtbhcmajeoamloaaDoor
open Go.RowKit
set_option maxRecDepth 100000

theorem bool_sv {a b : Bool} (e : a = b) (ρ : Rho) : (SV.c (.val (.bool a))).den ρ = (SV.c (.val (.bool b))).den ρ := by subst e; rfl
theorem mk8 (z : Int) (l : List UInt8) : 8 * (mkS z l).size ≤ 80000000 := by have := mkS_size z l; omega
def lawP : List (FuncId × Dn) := (15, dSane) :: lawE
theorem lawP_ok : AllOk lawP := .cons spSane lawE_ok
def envP : Env := envN 0 lawP rdW fun _ => false
theorem envP_ok : EOk Tryd.prog envP := envN_ok lawP_ok rdW_ok 0 fun _ => false
set_option maxHeartbeats 8000000 in
theorem vcWideProductsAA (b0 : Bool) (z0 : Int) (h0 : IR z0) (l0 : List UInt8) (c0 : Nat) (g0 : SliOk false l0.length c0) (m0 : l0.length ≤ 140737488351232) (b1 : Bool) (z1 : Int) (h1 : IR z1) (l1 : List UInt8) (c1 : Nat) (g1 : SliOk false l1.length c1) (m1 : l1.length ≤ 140737488351232) : vcF envP (inl envP noF 0) Tryd.f3 [.agg [.val (.bool b0), .sli false 0 0 l0.length c0 g0, .int z0 h0], .agg [.val (.bool b1), .sli false 1 0 l1.length c1 g1, .int z1 h1]] [⟨5, true, bsC l0, 0⟩, ⟨5, true, bsC l1, 0⟩] fun u _ => ∀ ρ, u.den ρ = (SV.c (.val (.bool true))).den ρ := by
  conv => whnf
  refine ⟨⟨l0, bs_all l0 rfl, rfl, m0⟩, ?_⟩
  conv => whnf
  refine ⟨⟨l1, bs_all l1 rfl, rfl, m1⟩, ?_⟩
  conv => whnf
  refine ⟨⟨mk8 _ _, mk8 _ _⟩, ?_⟩
  conv => whnf
  refine ⟨⟨mk8 _ _, mk8 _ _⟩, ?_⟩
  conv => whnf
  refine bcase_true (decide_eq_true rfl) ?_
  conv => whnf
  refine ⟨⟨mk8 _ _, mk8 _ _⟩, ?_⟩
  conv => whnf
  refine ⟨⟨mk8 _ _, mk8 _ _⟩, ?_⟩
  conv => whnf
  exact fun ρ => bool_sv (decide_eq_true rfl) ρ
set_option maxHeartbeats 8000000 in
theorem vcWideProductsAB (b0 : Bool) (z0 : Int) (h0 : IR z0) (l0 : List UInt8) (c0 : Nat) (g0 : SliOk false l0.length c0) (m0 : l0.length ≤ 140737488351232) (b1 : Bool) (z1 : Int) (h1 : IR z1) (a1 : Option Addr) : vcF envP (inl envP noF 0) Tryd.f3 [.agg [.val (.bool b0), .sli false 0 0 l0.length c0 g0, .int z0 h0], .agg [.val (.bool b1), .val (.slice a1 0 0), .int z1 h1]] [⟨5, true, bsC l0, 0⟩] fun u _ => ∀ ρ, u.den ρ = (SV.c (.val (.bool true))).den ρ := by
  conv => whnf
  refine ⟨⟨l0, bs_all l0 rfl, rfl, m0⟩, ?_⟩
  conv => whnf
  refine ⟨⟨mk8 _ _, mk8 _ _⟩, ?_⟩
  conv => whnf
  refine ⟨⟨mk8 _ _, mk8 _ _⟩, ?_⟩
  conv => whnf
  refine bcase_true (decide_eq_true rfl) ?_
  conv => whnf
  refine ⟨⟨mk8 _ _, mk8 _ _⟩, ?_⟩
  conv => whnf
  refine ⟨⟨mk8 _ _, mk8 _ _⟩, ?_⟩
  conv => whnf
  exact fun ρ => bool_sv (decide_eq_true rfl) ρ
set_option maxHeartbeats 8000000 in
theorem vcWideProductsBA (b0 : Bool) (z0 : Int) (h0 : IR z0) (a0 : Option Addr) (b1 : Bool) (z1 : Int) (h1 : IR z1) (l1 : List UInt8) (c1 : Nat) (g1 : SliOk false l1.length c1) (m1 : l1.length ≤ 140737488351232) : vcF envP (inl envP noF 0) Tryd.f3 [.agg [.val (.bool b0), .val (.slice a0 0 0), .int z0 h0], .agg [.val (.bool b1), .sli false 0 0 l1.length c1 g1, .int z1 h1]] [⟨5, true, bsC l1, 0⟩] fun u _ => ∀ ρ, u.den ρ = (SV.c (.val (.bool true))).den ρ := by
  conv => whnf
  refine ⟨⟨l1, bs_all l1 rfl, rfl, m1⟩, ?_⟩
  conv => whnf
  refine ⟨⟨mk8 _ _, mk8 _ _⟩, ?_⟩
  conv => whnf
  refine ⟨⟨mk8 _ _, mk8 _ _⟩, ?_⟩
  conv => whnf
  refine bcase_true (decide_eq_true rfl) ?_
  conv => whnf
  refine ⟨⟨mk8 _ _, mk8 _ _⟩, ?_⟩
  conv => whnf
  refine ⟨⟨mk8 _ _, mk8 _ _⟩, ?_⟩
  conv => whnf
  exact fun ρ => bool_sv (decide_eq_true rfl) ρ
set_option maxHeartbeats 8000000 in
theorem vcWideProductsBB (b0 : Bool) (z0 : Int) (h0 : IR z0) (a0 : Option Addr) (b1 : Bool) (z1 : Int) (h1 : IR z1) (a1 : Option Addr) : vcF envP (inl envP noF 0) Tryd.f3 [.agg [.val (.bool b0), .val (.slice a0 0 0), .int z0 h0], .agg [.val (.bool b1), .val (.slice a1 0 0), .int z1 h1]] [] fun u _ => ∀ ρ, u.den ρ = (SV.c (.val (.bool true))).den ρ := by
  conv => whnf
  refine ⟨⟨mk8 _ _, mk8 _ _⟩, ?_⟩
  conv => whnf
  refine ⟨⟨mk8 _ _, mk8 _ _⟩, ?_⟩
  conv => whnf
  refine bcase_true (decide_eq_true rfl) ?_
  conv => whnf
  refine ⟨⟨mk8 _ _, mk8 _ _⟩, ?_⟩
  conv => whnf
  refine ⟨⟨mk8 _ _, mk8 _ _⟩, ?_⟩
  conv => whnf
  exact fun ρ => bool_sv (decide_eq_true rfl) ρ
end Go.Proofs.YtbhcmajeoamloaaDoor
