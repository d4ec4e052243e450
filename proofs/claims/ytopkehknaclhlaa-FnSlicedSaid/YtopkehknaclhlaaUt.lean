/- What stays as it was: lists that are owned, bytes, a row of eleven cells stored. Plain facts, no condition. -/
import Derived.Test.YtopkehknaclhlaaSm
import Derived.Test.YtopkehknaclhlaaFr
namespace Go.Proofs.Ytopkehknaclhlaa
open Go Go.RowKit

theorem OwnC.chgN {S : Nat → Prop} {w w' : World} {base : Nat} {v : Value} {xs : List (Nat × Nat)} (h : OwnC w base v xs) (G : Chg S w w') (hS : ∀ g, some g = v.ownBlock → ¬ S g) : OwnC w' base v xs := by
  obtain ⟨h1, h2⟩ := h
  refine ⟨h1, ?_⟩
  rcases h2 with h2 | ⟨g, cap, cur, hv, hg, hh, r⟩
  · exact .inl h2
  · exact .inr ⟨g, cap, cur, hv, hg, G.heap hh (hS g (by rw [hv]; rfl)), r⟩

theorem chg_row11 (w : World) (b : Nat) (v0 v1 v2 v3 v4 v5 v6 v7 v8 v9 v10 : Value) :
    Chg (fun k => k = b) w (((((((((((w.setCell ⟨b, 0, none⟩ v0).setCell ⟨b, 1, none⟩ v1).setCell ⟨b, 2, none⟩ v2).setCell ⟨b, 3, none⟩ v3).setCell ⟨b, 4, none⟩ v4).setCell ⟨b, 5, none⟩ v5).setCell ⟨b, 6, none⟩ v6).setCell ⟨b, 7, none⟩ v7).setCell ⟨b, 8, none⟩ v8).setCell ⟨b, 9, none⟩ v9).setCell ⟨b, 10, none⟩ v10) := by
  repeat (first | (with_reducible exact Chg.refl _ _) | (with_reducible refine Chg.setCell ?_ ?_ _; rotate_left; exact .inl rfl))

theorem Bytes.up {w w' : World} {B : Nat} {a : Option Addr} {len cap : Nat} (h : Bytes w B a len cap) (hB : B ≤ w'.heap.size) {S : Nat → Prop} (g : Chg S w w') (hS : ∀ n, n < B → ¬ S n) : Bytes w' w'.heap.size a len cap := by
  obtain ⟨h1, h2, h3⟩ := h.chg g hS
  exact ⟨h1, h2, fun k hk => by
    obtain ⟨b, off, z, h4, h5, h6⟩ := h3 k hk
    exact ⟨b, off, z, h4, by omega, h6⟩⟩
end Go.Proofs.Ytopkehknaclhlaa
