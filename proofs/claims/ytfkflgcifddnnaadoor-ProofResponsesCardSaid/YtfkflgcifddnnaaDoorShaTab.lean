/- SHA-256's tables, as the program's variables hold them; bits.RotateLeft32 to the right. -/
import Derived.Test.YtfkflgcifddnnaaDoorSumTab
import Derived.Test.YtfkflgcifddnnaaDoorSumRot
namespace Go.Proofs.YtfkflgcifddnnaaDoor
open Go.RowKit

def rootsL : List Nat := match (Rows.laid_gatepost_api_Roots : DataW Unit) with
  | .agg l => l.map fun x => match x with
    | .lit (.int _ z) => z.toNat
    | _ => 0
  | _ => []
def beginL : List Nat := [0x6a09e667, 0xbb67ae85, 0x3c6ef372, 0xa54ff53a, 0x510e527f, 0x9b05688c, 0x1f83d9ab, 0x5be0cd19]
theorem roots_tab : (Rows.laid_gatepost_api_Roots : DataW Unit) = Lib.tabData .u32 (rootsL.map fun (n : Nat) => (n : Int)) := by kernel_rfl
theorem begin_tab : (Rows.laid_gatepost_api_Begin : DataW Unit) = Lib.tabData .u32 (beginL.map fun (n : Nat) => (n : Int)) := by kernel_rfl
theorem rootsL_len : rootsL.length = 64 := by kernel_rfl
theorem beginL_len : beginL.length = 8 := rfl
theorem rootsL_all : rootsL.all (fun n => decide (n < 4294967296)) = true := by kernel_rfl
theorem rootsL_lt (i : Nat) : rootsL.getD i 0 < 4294967296 := getD_lt _ (fun x hx => by have := List.all_eq_true.1 rootsL_all x hx; simpa using this) i
def sha0 : W8 := ⟨0x6a09e667, 0xbb67ae85, 0x3c6ef372, 0xa54ff53a, 0x510e527f, 0x9b05688c, 0x1f83d9ab, 0x5be0cd19⟩
theorem sha0_ok : sha0.ok := by unfold sha0 W8.ok; decide
structure ShaT (w : World) : Prop where
  roots : ∀ i, i < 64 → w.cell? ⟨3, i, none⟩ = some (.int .u32 (rootsL.getD i 0 : Nat))
  begin_ : ∀ i, i < 8 → w.cell? ⟨2, i, none⟩ = some (.int .u32 (beginL.getD i 0 : Nat))
theorem ShaT.later {w w' : World} (h : ShaT w) (hb : Below w.heap.size w w') : ShaT w' :=
  ⟨fun i hi => (hb.cell (World.block_lt_of_cell? w _ (h.roots i hi))).trans (h.roots i hi), fun i hi => (hb.cell (World.block_lt_of_cell? w _ (h.begin_ i hi))).trans (h.begin_ i hi)⟩
theorem andR (k : Nat) (hk : 1 ≤ k) (hk2 : k ≤ 31) : bits .and .u64 (IntKind.u64.wrap (-(k : Int))) 31 = ((32 - k : Nat) : Int) := by
  have : ∀ n : Fin 32, 1 ≤ n.val → bits .and .u64 (IntKind.u64.wrap (-((n.val : Nat) : Int))) 31 = ((32 - n.val : Nat) : Int) := by decide
  exact this ⟨k, by omega⟩ hk
set_option maxRecDepth 100000 in
theorem rotRight (n k : Nat) (hn : n < 4294967296) (hk : 1 ≤ k) (hk2 : k ≤ 31) (w : World) : Calls Tryd.prog 65 #[.int .u32 n, .int .i64 (-(k : Int))] w fun e w' => e = .returned (.int .u32 (rorN n k : Nat)) ∧ w = w' := by
  have hb := andR k hk hk2
  have hr := rot_bits n (32 - k) hn (by omega)
  unfold rorN
  go_enter Tryd.func65, Tryd.ntmps65
  go_wp2
  go_ret
  exact ⟨rfl, rfl⟩
end Go.Proofs.YtfkflgcifddnnaaDoor
