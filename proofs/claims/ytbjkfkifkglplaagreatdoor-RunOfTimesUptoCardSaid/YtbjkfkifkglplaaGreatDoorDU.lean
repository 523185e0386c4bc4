/-
  What was read holds no more than its bulk.
-/
import Derived.Test.YtbjkfkifkglplaaGreatDoorD5c
import Derived.Test.YtbjkfkifkglplaaGreatDoorRows
set_option linter.unusedVariables false
namespace Go.Proofs.YtbjkfkifkglplaaGreatDoor.Q
open Go Go.Den Go.Proofs.YtbjkfkifkglplaaGreatDoor
mutual
theorem blk_le {H : Type} : ∀ d : DataW H, blk d ≤ Rows.uptoBulk d
  | .lit (.string b) => by simp [blk, Rows.uptoBulk]
  | .lit (.int _ _) => by simp [blk, Rows.uptoBulk]
  | .lit (.bool _) => by simp [blk, Rows.uptoBulk]
  | .lit (.float _ _) => by simp [blk, Rows.uptoBulk]
  | .lit .nil => by simp [blk, Rows.uptoBulk]
  | .nil => by simp [blk, Rows.uptoBulk]
  | .slice e s => by
    have := blkAll_le e
    simp only [blk, Rows.uptoBulk]; omega
  | .agg e => by
    have := blkAll_le e
    simp only [blk, Rows.uptoBulk]; omega
  | .ptr _ => by simp [blk]
  | .iface _ _ => by simp [blk]
  | .map _ => by simp [blk]
  | .held _ => by simp [blk]
theorem blkAll_le {H : Type} : ∀ l : List (DataW H), blk.blkAll l ≤ Rows.uptoBulkAll l
  | [] => Nat.le_refl _
  | d :: r => by
    have := blk_le d
    have := blkAll_le r
    simp only [blk.blkAll, Rows.uptoBulkAll]; omega
end
end Go.Proofs.YtbjkfkifkglplaaGreatDoor.Q
