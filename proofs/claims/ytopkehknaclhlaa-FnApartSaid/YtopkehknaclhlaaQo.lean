/- Numbers at a place; windows and pools that come back with whether it went well. Conditions: as each says. (Printed by gen_qo.py.) -/
import Derived.Test.YtopkehknaclhlaaQn
import Derived.Test.YtopkehknaclhlaaMj
namespace Go.Proofs.Ytopkehknaclhlaa
open Go Go.RowKit

/-- The number that 'at' gives for a place. -/
def AtIs (w : World) (B : Nat) (a : Option Addr) (len i x : Nat) : Prop :=
  x ≤ 255 ∧ ((len ≤ i ∧ x = (i * 37 + len * 11) % 256) ∨ (i < len ∧ ∃ b off, a = some ⟨b, off, none⟩ ∧ b < B ∧ w.cell? ⟨b, off + i, none⟩ = some (.int .u8 (x : Int))))
theorem AtIs.of {w : World} {B : Nat} {a : Option Addr} {len cap : Nat} (h : Bytes w B a len cap) (i : Nat) : ∃ x, AtIs w B a len i x := by
  by_cases hlt : i < len
  · obtain ⟨b, off, z, rfl, hb, hz, hz0, hz1⟩ := h.2.2 i hlt
    obtain ⟨x, rfl⟩ := Int.eq_ofNat_of_zero_le hz0
    exact ⟨x, by omega, .inr ⟨hlt, b, off, rfl, hb, hz⟩⟩
  · exact ⟨_, by omega, .inl ⟨by omega, rfl⟩⟩
theorem AtIs.chg {w w' : World} {B : Nat} {a : Option Addr} {len i x : Nat} (h : AtIs w B a len i x) (G : Chg (fun _ => False) w w') : AtIs w' B a len i x := by
  obtain ⟨h1, h2⟩ := h
  refine ⟨h1, ?_⟩
  rcases h2 with h2 | ⟨h2, b, off, h3, h4, h5⟩
  · exact .inl h2
  · exact .inr ⟨h2, b, off, h3, h4, G.cell h5 (fun h => h)⟩
set_option maxHeartbeats 1000000 in
theorem at_val (w : World) (B : Nat) (a : Option Addr) (len cap i x : Nat) (hl : len ≤ 1048576) (hi : i ≤ 10000) (hx : AtIs w B a len i x) :
    Calls Try.prog 56 #[.slice a len cap, .int .i64 (i : Int)] w (fun e w' => e = .returned (.int .i64 (x : Int)) ∧ w = w') := by
  obtain ⟨hx1, h2⟩ := hx
  rcases h2 with ⟨h2, rfl⟩ | ⟨h2, b, off, rfl, h4, hz⟩
  · have hlt' : ¬ (i : Int) < (len : Int) := by omega
    have i0 : (0 : Int) ≤ (i : Int) := by omega
    have i1 : (i : Int) ≤ 10000 := by omega
    have l0 : (0 : Int) ≤ (len : Int) := by omega
    have l1 : (len : Int) ≤ 1048576 := by omega
    go_enter Try.func56, Try.ntmps56
    go_wp2
    go_ret
    exact ⟨by congr 2, rfl⟩
  · have hlt' : (i : Int) < (len : Int) := by omega
    go_enter Try.func56, Try.ntmps56
    go_wp2
    go_ret
    exact ⟨rfl, rfl⟩

theorem winP_len {xs : List (Nat × Nat)} {ls : List Ls} {k : Nat} {ys : List (Nat × Nat)} (h : winP xs ls k = some ys) : ys.length ≤ xs.length := by
  unfold winP at h
  cases hl : ls[k]? with
  | none => rw [hl] at h; cases h
  | some l =>
    rw [hl] at h
    dsimp only at h
    split at h
    · obtain rfl := Option.some.inj h
      rw [List.length_take, List.length_drop]
      omega
    · cases h

/-- A pool and whether it went well. -/
def flatB : Option (List (Nat × Nat) × List Ls) → List (Nat × Nat) × List Ls × Bool
  | some r => (r.1, r.2, true)
  | none => ([], [], false)
def RFlatB (w : World) (r : List (Nat × Nat) × List Ls × Bool) (e : Ending) (w' : World) : Prop :=
  ∃ a c b d, e = .returned (.tuple #[.agg #[.slice a r.1.length c, .slice b r.2.1.length d], .bool r.2.2]) ∧ OwnC w' w.heap.size (.slice a r.1.length c) r.1 ∧ OwnL w' w.heap.size (.slice b r.2.1.length d) r.2.1 ∧ Chg (fun _ => False) w w'
theorem rpb_flat {w w' : World} {r : Option (List (Nat × Nat) × List Ls)} {e : Ending} (h : RPb w r e w') : RFlatB w (flatB r) e w' := by
  obtain ⟨hG, h⟩ := h
  cases r with
  | none => exact ⟨none, 0, none, 0, h, OwnC.nil _ _, OwnR.nil encL _ _, hG⟩
  | some r =>
    obtain ⟨a, c, b, d, h1, h2, h3⟩ := h
    exact ⟨a, c, b, d, h1, h2, h3, hG⟩
/-- A window and whether there is one. -/
def flatW : Option (List (Nat × Nat)) → List (Nat × Nat) × Bool
  | some r => (r, true)
  | none => ([], false)
def RFlatW (w : World) (r : List (Nat × Nat) × Bool) (e : Ending) (w' : World) : Prop :=
  ∃ a c, e = .returned (.tuple #[.slice a r.1.length c, .bool r.2]) ∧ OwnC w' w.heap.size (.slice a r.1.length c) r.1 ∧ Chg (fun _ => False) w w'
theorem rwin_flat {w w' : World} {r : Option (List (Nat × Nat))} {e : Ending} (h : RWin w r e w') : RFlatW w (flatW r) e w' := by
  obtain ⟨hG, h⟩ := h
  cases r with
  | none => exact ⟨none, 0, h, OwnC.nil _ _, hG⟩
  | some r =>
    obtain ⟨a, c, h1, h2⟩ := h
    exact ⟨a, c, h1, h2, hG⟩
theorem flatW_len {xs : List (Nat × Nat)} {ls : List Ls} (k : Nat) : (flatW (winP xs ls k)).1.length ≤ xs.length := by
  cases h : winP xs ls k with
  | none => exact Nat.zero_le _
  | some W => exact winP_len h
theorem appB_ok {xs : List (Nat × Nat)} {ls : List Ls} {id : Nat} {zs : List (Nat × Nat)} (hp : POk xs.length ls) : POk (flatB (appP xs ls id zs)).1.length (flatB (appP xs ls id zs)).2.1 := by
  cases h : appP xs ls id zs with
  | none => exact ⟨(by show 0 ≤ 256; omega), (by show 0 ≤ 16; omega), (fun l h => by cases h), List.Pairwise.nil⟩
  | some r => exact (app_facts hp h).1
/-- What each holder sees behind an append that went well. -/
theorem appB_win {xs us : List (Nat × Nat)} {ls ks : List Ls} {id : Nat} {zs : List (Nat × Nat)} (hp : POk xs.length ls) (h : flatB (appP xs ls id zs) = (us, ks, true)) (k : Nat) (W : List (Nat × Nat)) (hW : flatW (winP xs ls k) = (W, true)) :
    flatW (winP us ks k) = (if k = id then W ++ zs else W, true) := by
  cases ha : appP xs ls id zs with
  | none => rw [ha] at h; cases h
  | some r =>
    rw [ha] at h
    simp only [flatB, Prod.mk.injEq] at h
    obtain ⟨rfl, rfl, _⟩ := h
    obtain ⟨_, ⟨V, hV, hV2⟩, hne⟩ := app_facts hp ha
    by_cases e : k = id
    · subst e
      rw [hV] at hW
      simp only [flatW, Prod.mk.injEq] at hW
      rw [hV2, if_pos rfl, ← hW.1]
      rfl
    · rw [hne k e, hW, if_neg e]
theorem sumR_take (ls : List Ls) (k : Nat) (l : Ls) (h : ls[k]? = some l) : sumR (ls.take (k + 1)) = sumR (ls.take k) + l.rm := by
  obtain ⟨hk, rfl⟩ := List.getElem?_eq_some_iff.mp h
  rw [List.take_succ_eq_append_getElem hk]
  unfold sumR
  rw [List.map_append, List.sum_append]
  simp
theorem sumR_le (ls : List Ls) (k : Nat) : sumR (ls.take k) ≤ sumR ls := by
  have h : sumR ls = sumR (ls.take k) + sumR (ls.drop k) := by
    conv => lhs; rw [← List.take_append_drop k ls]
    unfold sumR
    rw [List.map_append, List.sum_append]
  omega
end Go.Proofs.Ytopkehknaclhlaa
