/-
  Contracts of SpareNew, in the program and in the reference.
-/
import Derived.Test.YtbolpanfgbhbnaaGeo
import Derived.Test.YtbolpanfgbhbnaaSpare
namespace Go.Proofs.Ytbolpanfgbhbnaa
open Go.RowKit
set_option linter.unusedSimpArgs false
set_option linter.unusedVariables false

section
variable {P : Program} {w : World} {ops : Array Oper} {o : Oper} {a : Act} {Q : Exit → Act → World → Prop}
/-- 'append(out, y)' of integers inside a statement that leaves its order open. -/
theorem step_app1 {K : Act → World → Prop} {E : Prop} (hgd : o.guard = none) (s x : Operand) (t : TypeId) (ho : o.op = .call { callee := .builtin .append, args := #[s, x], argTypes := #[t, t] }) (ht : P.underlying t = some (.slice 3))
    (hinf : (P.info? 3).map (fun i => (i.zero, i.size, i.bytes)) = some (some (.int .i64 0), 1, 8))
    (A : Option Addr) (n c lo : Nat) (zs : List Int) (hs : a.eval s = .slice A n c) (hown : OwnI w lo A n c zs) (g1 : Nat) (y : Int) (hx : a.eval x = .slice (some ⟨g1, 0, none⟩) 1 1)
    (hcell : w.cell? ⟨g1, 0, none⟩ = some (.int .i64 y)) (hlen : n + 1 ≤ 1099511627776) (hlo : lo ≤ w.heap.size)
    (h : ∀ A' c' w', OwnI w' lo A' (n + 1) c' (zs ++ [y]) → w.grownBy w' (blk A c) → (blk A' c' = blk A c ∨ blk A' c' = some w.heap.size) → K (a.put o.dst (.slice A' (n + 1) c')) w') :
    if Region.wanted o (yielded ops a.tmps) = true then Oper.wp P o a w K Q else E := by
  have hw : Region.wanted o (yielded ops a.tmps) = true := by simp [Region.wanted, hgd]
  rw [if_pos hw]
  refine wp_appV s x t ho lo 3 _ 1 8 ht hinf rfl (by omega) A n c (mapI zs) hs hown _ 1 1 [.int .i64 y] hx (Src.one hcell) (by intro u hu; simp at hu; subst hu; rfl) (by unfold maxLen; omega) (by omega) hlo ?_
  intro A' c' w' h2 h3 h4
  exact h A' c' w' (by unfold OwnI; rw [mapI_append]; exact h2) h3 h4
end
theorem OwnI.nilH (w : World) (lo hi : Nat) (A : Option Addr) : OwnH w lo hi A 0 0 [] := ⟨OwnI.nil _ _ _, fun k hk => by rw [blk_zero] at hk; cases hk⟩
/-- append in place grows nothing older than the row. -/
theorem below_app {lo : Nat} {a b c : World} {row : Option Nat} (h : Below lo a b) (g : b.grownBy c row) (hlo : ∀ k, row = some k → lo ≤ k) (hb : lo ≤ b.heap.size) : Below lo a c :=
  h.trans ⟨g.os, g.tape, g.output, g.size, fun k hk => g.block k (by omega) (fun e => by have := hlo k e.symm; omega)⟩
end Go.Proofs.Ytbolpanfgbhbnaa
