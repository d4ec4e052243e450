/- The reference's pool of a code. Conditions: bytes that lie below. -/
import Derived.Test.YtopkehknaclhlaaPo
namespace Go.Proofs.Ytopkehknaclhlaa
open Go Go.RowKit

/-- A valid pool comes back. -/
def RMkP (w : World) (e : Ending) (w' : World) : Prop :=
  ∃ xs ls a c1 a2 c2, e = .returned (.agg #[.slice a xs.length c1, .slice a2 ls.length c2]) ∧ POk xs.length ls ∧ OwnC w' w.heap.size (.slice a xs.length c1) xs ∧ OwnL w' w.heap.size (.slice a2 ls.length c2) ls ∧ Chg (fun _ => False) w w'

set_option maxRecDepth 100000 in
set_option maxHeartbeats 2000000 in
theorem MakePool_calls (w : World) (a : Option Addr) (len cap : Nat) (hy : Bytes w w.heap.size a len cap) :
    Calls Try.prog 52 #[.slice a len cap] w (RMkP w) := by
  have HY := hid (Bytes.up hy (w' := w.alloc (.cells #[.slice none 0 0, .slice none 0 0] 67)) (by simp) ((Chg.refl (fun _ => False) w).alloc _) (fun _ _ h => h))
  have R0 := hid (heap_new w (.cells #[.slice none 0 0, .slice none 0 0] 67))
  clear hy
  go_enter Try.func52, Try.ntmps52
  go_wp2_with fail
  refine (l01New_calls _ a len cap HY.out).mono ?_
  rintro e w1 ⟨c, hc, rfl, hc1, g1⟩
  have R1 := hid (g1.heap R0.out (fun h => h))
  have G1 := hid (((Chg.refl (fun _ => False) w).alloc (.cells #[.slice none 0 0, .slice none 0 0] 67)).trans g1 fun _ _ h => h)
  have HC1 := hid hc1
  have lz1 := g1.size
  simp at lz1 hc
  clear g1 hc1 R0 HY
  go_wp2_with fail
  refine (l3Pool_calls _ c HC1.out).mono ?_
  rintro e w2 ⟨xs, ls, a1, c1, a2, c2, rfl, hp, ho, hv, g2⟩
  have R2 := hid (g2.heap R1.out (by omega))
  have kR2 := cells_at R2.out
  have fR2 := frees_at R2.out
  have HO := hid ho
  have HV := hid hv
  have HP := hid hp
  have G2 := hid (G1.out.trans g2 fun j hj e => by omega)
  clear ho hv hp g2 G1
  go_wp2_with fail
  refine bodyPost_ret (results_row1 (by rfl) _ _ _ w.heap.size _ rfl (load_pool (heap_row2 R2.out _ _) rfl)) rfl ⟨xs, ls, a1, c1, a2, c2, rfl, HP.out, ?_, ?_, ?_⟩
  · exact (HO.out.chgN (chg_row2 w2 w.heap.size _ _) (fun j e1 (e2 : j = w.heap.size) => by subst e2; exact apartTC HO.out R2.out (by decide) e1)).mono (by omega)
  · exact OwnR.mono (OwnR.chgN HV.out (chg_row2 w2 w.heap.size _ _) (fun j e1 (e2 : j = w.heap.size) => by subst e2; exact apartT HV.out R2.out (by decide) e1)) (by omega)
  · exact G2.out.trans (chg_row2 w2 w.heap.size _ _) (fun j hj (e : j = w.heap.size) => by omega)
end Go.Proofs.Ytopkehknaclhlaa
