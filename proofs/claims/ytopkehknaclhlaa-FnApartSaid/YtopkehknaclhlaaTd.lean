/- The text of a pool. Conditions: the pool is valid. (Printed by gen_td.py.) -/
import Derived.Test.YtopkehknaclhlaaNa
import Derived.Test.YtopkehknaclhlaaPm
import Derived.Deep.DeepCutAuto
namespace Go.Proofs.Ytopkehknaclhlaa
open Go Go.RowKit

noncomputable def txA (xs : List (Nat × Nat)) : Nat → ByteArray
  | 0 => ⟨#[]⟩
  | k + 1 => txA xs k ++ ptT (xs.getD k (0, 0)) ++ ⟨#[59]⟩
theorem txA_size (xs : List (Nat × Nat)) : ∀ k, (txA xs k).size ≤ 92 * k
  | 0 => Nat.le_refl _
  | k + 1 => by
    have h1 := txA_size xs k
    have h2 := ptT_size (xs.getD k (0, 0))
    have h3 : (⟨#[59]⟩ : ByteArray).size = 1 := rfl
    unfold txA
    rw [ByteArray.size_append, ByteArray.size_append]
    omega
/-- The text of a lease, behind another text. -/
def lsT (A : ByteArray) (l : Ls) : ByteArray :=
  (if l.fr then A ++ numT (l.st : Int) ++ ⟨#[32]⟩ ++ numT (l.ct : Int) ++ ⟨#[32]⟩ ++ numT (l.rm : Int) ++ ⟨#[32, 102, 114, 101, 101]⟩ else A ++ numT (l.st : Int) ++ ⟨#[32]⟩ ++ numT (l.ct : Int) ++ ⟨#[32]⟩ ++ numT (l.rm : Int)) ++ ⟨#[59]⟩
theorem lsT_size (A : ByteArray) (l : Ls) : (lsT A l).size ≤ A.size + 100 := by
  have h1 := numT_size (l.st : Int)
  have h2 := numT_size (l.ct : Int)
  have h3 := numT_size (l.rm : Int)
  have h4 : (⟨#[59]⟩ : ByteArray).size = 1 := rfl
  have h5 : (⟨#[32]⟩ : ByteArray).size = 1 := rfl
  have h6 : (⟨#[32, 102, 114, 101, 101]⟩ : ByteArray).size = 5 := rfl
  unfold lsT
  split <;> simp only [ByteArray.size_append] <;> omega
def txB (A : ByteArray) (ls : List Ls) : Nat → ByteArray
  | 0 => A
  | k + 1 => lsT (txB A ls k) (ls.getD k Ls.free)
theorem txB_size (A : ByteArray) (ls : List Ls) : ∀ k, (txB A ls k).size ≤ A.size + 100 * k
  | 0 => Nat.le_refl _
  | k + 1 => by
    have h1 := txB_size A ls k
    have h2 := lsT_size (txB A ls k) (ls.getD k Ls.free)
    unfold txB
    omega
noncomputable def poolT (xs : List (Nat × Nat)) (ls : List Ls) : ByteArray := txB (txA xs xs.length) ls ls.length

set_option maxRecDepth 100000 in
set_option maxHeartbeats 4000000 in
theorem MakePoolText_calls (w : World) (s v : Value) (xs : List (Nat × Nat)) (ls : List Ls) (ho : OwnC w 0 s xs) (hv : OwnL w 0 v ls) (hp : POk xs.length ls) :
    Calls Try.prog 60 #[.agg #[s, v]] w (RTx w (poolT xs ls)) := by
  obtain ⟨a, c, rfl⟩ := ho.form
  obtain ⟨a2, c2, rfl⟩ := hv.form
  have n256 := hp.nle
  have m16 := hp.len
  have A1 := (Chg.refl (fun _ => False) w).alloc (.cells #[.slice a xs.length c, .slice a2 ls.length c2] 67)
  have R0 := hid (heap_new w (.cells #[.slice a xs.length c, .slice a2 ls.length c2] 67))
  have HO := hid (ho.chg A1 fun _ _ _ h => h)
  have HV := hid (hv.chg A1 fun _ _ _ h => h)
  have HG := hid A1
  have HP := hid hp
  obtain ⟨T, hT⟩ : ∃ T, T = poolT xs ls := ⟨_, rfl⟩
  rw [← hT]
  have HT := hid hT
  clear A1 ho hv hp hT
  generalize hn : xs.length = n at *
  generalize hm : ls.length = m at *
  have HN := hid hn
  have HM := hid hm
  clear hn hm
  go_enter Try.func60, Try.ntmps60
  go_upto_region 1 with fail
  generalize w.alloc (.cells #[.slice a n c, .slice a2 m c2] 67) = w1 at *
  have kR0 := cells_at R0.out
  go_wp2_with fail
  go_loopw [3, 11] (fun t i wr => ∃ k : Nat, k ≤ n ∧ i = .int .i64 (k : Int) ∧ t = .string (txA xs k) ∧ Hid (Chg (fun _ => False) w1 wr)) (fun _ i _ => n - (intOf i).toNat)
  case atStart => exact ⟨0, Nat.zero_le _, rfl, rfl, hid (Chg.refl _ _)⟩
  case round =>
    obtain ⟨k, hk, rfl, rfl, GR⟩ := hrel
    obtain ⟨wo, rfl⟩ : ∃ wo : World, wo = wr := ⟨_, rfl⟩
    clear kR0
    have hsz := txA_size xs k
    have HSS := hid (show txA xs (k + 1) = txA xs k ++ ptT (xs.getD k (0, 0)) ++ ⟨#[59]⟩ from rfl)
    by_cases hlt : k < n
    · have hlt' : (k : Int) < (n : Int) := by omega
      have HOw := hid (HO.out.chg GR.out fun _ _ _ h => h)
      obtain ⟨g, cc, cur, hva, hga, hgb, hgd, hgha, hcl⟩ := HOw.out.at2 (n := n) HN.out (by omega)
      simp at hva
      obtain ⟨rfl, rfl⟩ := hva
      have x0 : wo.cell? ⟨g, k, none⟩ = some (.complex .f32 (xs.getD k (0, 0)).1 (xs.getD k (0, 0)).2) := by rw [cell_at hgha, hcl k hlt]; rfl
      have hc := fun w => Point_calls (xs.getD k (0, 0)).1 (xs.getD k (0, 0)).2 w
      have hpt := ptT_size (xs.getD k (0, 0))
      have e5 : (⟨#[59]⟩ : ByteArray).size = 1 := rfl
      have s1 := fun w => add_run (txA xs k) (ptT (xs.getD k (0, 0))) w (by omega)
      have s2 := fun w => add_run (txA xs k ++ ptT (xs.getD k (0, 0))) ⟨#[59]⟩ w (by rw [ByteArray.size_append]; omega)
      have hc2 : ∀ w, Calls Try.prog 116 #[.complex .f32 (xs.getD k (0, 0)).1 (xs.getD k (0, 0)).2] w (RTx w (ptT (xs.getD k (0, 0)))) := hc
      clear hc hcl hgha hpt e5 hsz
      generalize txA xs k = A at *
      generalize ptT (xs.getD k (0, 0)) = B at *
      generalize (xs.getD k (0, 0)).1 = u1 at *
      generalize (xs.getD k (0, 0)).2 = u2 at *
      go_wp2_with fail
      refine (hc2 _).mono ?_
      rintro e' w5 ⟨rfl, hG⟩
      have G5 := hid (GR.out.trans hG fun _ _ h => h)
      clear hG
      go_wp2_with fail
      go_roundw
      case rel => exact ⟨k + 1, by omega, by go_num, by rw [HSS.out], G5⟩
      case measure => simp [intOf]; omega
    · obtain rfl : n = k := by omega
      have hlt' : ¬ (n : Int) < (n : Int) := by omega
      have R0w := hid (GR.out.heap R0.out (fun h => h))
      have HVw := hid (HV.out.chg GR.out fun _ _ _ h => h)
      have HGw := hid (HG.out.trans GR.out fun _ _ h => h)
      have HTT := hid (show T = txB (txA xs n) ls m from by rw [HT.out, ← HN.out, ← HM.out]; rfl)
      clear HO HV HG HT R0 GR HSS
      have kR0 := cells_at R0w.out
      have hAs := txA_size xs n
      generalize txA xs n = A at *
      have HSA := hid hAs
      clear hAs
      go_wp2_with fail
      go_loopw [3, 24] (fun t i wr => ∃ k : Nat, k ≤ m ∧ i = .int .i64 (k : Int) ∧ t = .string (txB A ls k) ∧ Hid (Chg (fun _ => False) wo wr)) (fun _ i _ => m - (intOf i).toNat)
      case atStart => exact ⟨0, Nat.zero_le _, rfl, rfl, hid (Chg.refl _ _)⟩
      case round =>
        obtain ⟨k, hk, rfl, rfl, GR⟩ := hrel
        obtain ⟨wl, rfl⟩ : ∃ wl : World, wl = wr := ⟨_, rfl⟩
        clear kR0
        have hsz2 := txB_size A ls k
        by_cases hlt2 : k < m
        · have hlt' : (k : Int) < (m : Int) := by omega
          have HVl := hid (HVw.out.chg GR.out fun _ _ _ h => h)
          obtain ⟨g, cc, cur, hv2, hg0, hg1, hgc, hgh, l, hlk, j0, j1, j2, j3⟩ := OwnL.lease HVl.out HM.out hlt2
          simp at hv2
          obtain ⟨rfl, rfl⟩ := hv2
          have hok := HP.out.ok l (List.mem_of_getElem? hlk)
          have hb : l.st ≤ 256 ∧ l.ct ≤ 256 ∧ l.rm ≤ 256 := by
            rcases hok with ⟨_, h1, h2, h3⟩ | ⟨_, h1, h2, h3⟩ <;> omega
          have HSS := hid (show txB A ls (k + 1) = lsT (txB A ls k) l from by
            show lsT (txB A ls k) (ls.getD k Ls.free) = _
            rw [List.getD_eq_getElem?_getD, hlk]
            rfl)
          unfold lsT at HSS
          clear hok hlk hgh hgc
          obtain ⟨b1, b2, b3⟩ := hb
          generalize l.st = p at *
          generalize l.ct = q at *
          generalize l.rm = r at *
          generalize l.fr = ff at *
          generalize txB A ls k = B at *
          have z1 := numT_size (p : Int)
          have z2 := numT_size (q : Int)
          have z3 := numT_size (r : Int)
          have e1 : (⟨#[32]⟩ : ByteArray).size = 1 := rfl
          have e2 : (⟨#[32, 102, 114, 101, 101]⟩ : ByteArray).size = 5 := rfl
          have e3 : (⟨#[59]⟩ : ByteArray).size = 1 := rfl
          have c1 := hid (fun w => Int_calls (p : Int) (by omega) (by omega) w)
          have c2 := hid (fun w => Int_calls (q : Int) (by omega) (by omega) w)
          have c3 := hid (fun w => Int_calls (r : Int) (by omega) (by omega) w)
          generalize numT (p : Int) = N1 at *
          generalize numT (q : Int) = N2 at *
          generalize numT (r : Int) = N3 at *
          have hBA : B.size + 200 ≤ 9223372036854775807 := by have := HSA.out; omega
          have s1 := fun w => add_run B N1 w (by omega)
          have s2 := fun w => add_run (B ++ N1) ⟨#[32]⟩ w (by simp only [ByteArray.size_append]; omega)
          have s3 := fun w => add_run (B ++ N1 ++ ⟨#[32]⟩) N2 w (by simp only [ByteArray.size_append]; omega)
          have s4 := fun w => add_run (B ++ N1 ++ ⟨#[32]⟩ ++ N2) ⟨#[32]⟩ w (by simp only [ByteArray.size_append]; omega)
          have s5 := fun w => add_run (B ++ N1 ++ ⟨#[32]⟩ ++ N2 ++ ⟨#[32]⟩) N3 w (by simp only [ByteArray.size_append]; omega)
          have s6 := fun w => add_run (B ++ N1 ++ ⟨#[32]⟩ ++ N2 ++ ⟨#[32]⟩ ++ N3) ⟨#[32, 102, 114, 101, 101]⟩ w (by simp only [ByteArray.size_append]; omega)
          have s7 := fun w => add_run (B ++ N1 ++ ⟨#[32]⟩ ++ N2 ++ ⟨#[32]⟩ ++ N3) ⟨#[59]⟩ w (by simp only [ByteArray.size_append]; omega)
          have s8 := fun w => add_run (B ++ N1 ++ ⟨#[32]⟩ ++ N2 ++ ⟨#[32]⟩ ++ N3 ++ ⟨#[32, 102, 114, 101, 101]⟩) ⟨#[59]⟩ w (by simp only [ByteArray.size_append]; omega)
          clear z1 z2 z3 e1 e2 e3 hBA hsz2 b1 b2 b3
          have A9 := (Chg.refl (fun _ => False) wl).alloc (.cells #[.int .i64 (p : Int), .int .i64 (q : Int), .int .i64 (r : Int), .bool ff] 71)
          have R9 := hid (heap_new wl (.cells #[.int .i64 (p : Int), .int .i64 (q : Int), .int .i64 (r : Int), .bool ff] 71))
          have G9 := hid (GR.out.trans A9 fun _ _ h => h)
          clear A9 GR
          go_upto_region 10 with fail
          generalize wl.alloc (.cells #[.int .i64 (p : Int), .int .i64 (q : Int), .int .i64 (r : Int), .bool ff] 71) = w3 at *
          have x0 : w3.cell? ⟨wl.heap.size, 0, none⟩ = some (.int .i64 (p : Int)) := cell_at R9.out
          have x1 : w3.cell? ⟨wl.heap.size, 1, none⟩ = some (.int .i64 (q : Int)) := cell_at R9.out
          have x2 : w3.cell? ⟨wl.heap.size, 2, none⟩ = some (.int .i64 (r : Int)) := cell_at R9.out
          clear j0 j1 j2 j3
          go_cut [3] (fun t3 wx => t3 = .string (B ++ N1 ++ ⟨#[32]⟩ ++ N2 ++ ⟨#[32]⟩ ++ N3) ∧ Hid (Chg (fun _ => False) w3 wx))
          case first =>
            as_aux_lemma =>
              refine wp_region_held_drew (S := fun wx => Chg (fun _ => False) w3 wx) (by kernel_rfl) ((Chg.refl _ w3).drew) (fun hH => ?_)
              refine wpAnyH_take (i := 0) (v := ?_) (oi := { dst := some 28, op := Op.move (Operand.tmp 3), type := _, pos := _, after := _, guard := none }) rfl (by kernel_rfl) (by kernel_rfl) (by kernel_rfl) (fun _ _ _ h => h) (Or.inl ⟨by kernel_rfl, ?_⟩) (by assumption) ?_
              rotate_left
              · (intro wx hSw; (try dsimp only at hSw); go_simp) <;> with_reducible rfl
              try simp only [Act.put, List.setIfInBounds_toArray, List.set_cons_zero, List.set_cons_succ]
              refine wpAnyH_take (i := 1) (v := ?_) (oi := { dst := some 29, op := Op.fieldAddr 71 (Operand.tmp 7) 0, type := _, pos := _, after := _, guard := none }) rfl (by kernel_rfl) (by kernel_rfl) (by kernel_rfl) (fun _ _ _ h => h) (Or.inl ⟨by kernel_rfl, ?_⟩) (by assumption) ?_
              rotate_left
              · (intro wx hSw; (try dsimp only at hSw); go_simp) <;> with_reducible rfl
              try simp only [Act.put, List.setIfInBounds_toArray, List.set_cons_zero, List.set_cons_succ]
              refine wpAnyH_take (i := 2) (v := ?_) (oi := { dst := some 30, op := Op.load 3 (Operand.tmp 29), type := _, pos := _, after := _, guard := none }) rfl (by kernel_rfl) (by kernel_rfl) (by kernel_rfl) (fun _ _ _ h => h) (Or.inl ⟨by kernel_rfl, ?_⟩) (by assumption) ?_
              rotate_left
              · (intro wx hSw; (try dsimp only at hSw); have y0 := hSw.cell x0 (fun h => h); have y1 := hSw.cell x1 (fun h => h); have y2 := hSw.cell x2 (fun h => h); go_simp) <;> with_reducible rfl
              try simp only [Act.put, List.setIfInBounds_toArray, List.set_cons_zero, List.set_cons_succ]
              refine wpAnyH_take (i := 6) (v := ?_) (oi := { dst := some 34, op := Op.fieldAddr 71 (Operand.tmp 7) 1, type := _, pos := _, after := _, guard := none }) rfl (by kernel_rfl) (by kernel_rfl) (by kernel_rfl) (fun _ _ _ h => h) (Or.inl ⟨by kernel_rfl, ?_⟩) (by assumption) ?_
              rotate_left
              · (intro wx hSw; (try dsimp only at hSw); go_simp) <;> with_reducible rfl
              try simp only [Act.put, List.setIfInBounds_toArray, List.set_cons_zero, List.set_cons_succ]
              refine wpAnyH_take (i := 7) (v := ?_) (oi := { dst := some 35, op := Op.load 3 (Operand.tmp 34), type := _, pos := _, after := _, guard := none }) rfl (by kernel_rfl) (by kernel_rfl) (by kernel_rfl) (fun _ _ _ h => h) (Or.inl ⟨by kernel_rfl, ?_⟩) (by assumption) ?_
              rotate_left
              · (intro wx hSw; (try dsimp only at hSw); have y0 := hSw.cell x0 (fun h => h); have y1 := hSw.cell x1 (fun h => h); have y2 := hSw.cell x2 (fun h => h); go_simp) <;> with_reducible rfl
              try simp only [Act.put, List.setIfInBounds_toArray, List.set_cons_zero, List.set_cons_succ]
              refine wpAnyH_take (i := 11) (v := ?_) (oi := { dst := some 39, op := Op.fieldAddr 71 (Operand.tmp 7) 2, type := _, pos := _, after := _, guard := none }) rfl (by kernel_rfl) (by kernel_rfl) (by kernel_rfl) (fun _ _ _ h => h) (Or.inl ⟨by kernel_rfl, ?_⟩) (by assumption) ?_
              rotate_left
              · (intro wx hSw; (try dsimp only at hSw); go_simp) <;> with_reducible rfl
              try simp only [Act.put, List.setIfInBounds_toArray, List.set_cons_zero, List.set_cons_succ]
              refine wpAnyH_take (i := 12) (v := ?_) (oi := { dst := some 40, op := Op.load 3 (Operand.tmp 39), type := _, pos := _, after := _, guard := none }) rfl (by kernel_rfl) (by kernel_rfl) (by kernel_rfl) (fun _ _ _ h => h) (Or.inl ⟨by kernel_rfl, ?_⟩) (by assumption) ?_
              rotate_left
              · (intro wx hSw; (try dsimp only at hSw); have y0 := hSw.cell x0 (fun h => h); have y1 := hSw.cell x1 (fun h => h); have y2 := hSw.cell x2 (fun h => h); go_simp) <;> with_reducible rfl
              try simp only [Act.put, List.setIfInBounds_toArray, List.set_cons_zero, List.set_cons_succ]
              refine wpAnyH_ready (rs := [3]) (by kernel_rfl) (by simp) ?_
              refine (AllReadyH.cons rfl (fun K hK => ?_) AllReadyH.nil)
              go_simp
              refine (c1.out _).mono ?_
              rintro e' W3 ⟨rfl, hG3⟩
              go_wp2_with fail
              refine hK.out _ _ (hH.trans hG3 fun _ _ h => h) (fun H3 => ?_)
              clear hK K hH hG3
              try simp only [Act.put, List.setIfInBounds_toArray, List.set_cons_zero, List.set_cons_succ]
              refine wpAnyH_take (i := 4) (v := ?_) (oi := { dst := some 32, op := Op.binOp BinOp.add 9 (Operand.tmp 28) (Operand.tmp 31) 9, type := _, pos := _, after := _, guard := none }) rfl (by kernel_rfl) (by kernel_rfl) (by kernel_rfl) (fun _ _ _ h => h) (Or.inl ⟨by kernel_rfl, ?_⟩) (by assumption) ?_
              rotate_left
              · (intro wx hSw; (try dsimp only at hSw); go_simp) <;> with_reducible rfl
              try simp only [Act.put, List.setIfInBounds_toArray, List.set_cons_zero, List.set_cons_succ]
              refine wpAnyH_take (i := 5) (v := ?_) (oi := { dst := some 33, op := Op.binOp BinOp.add 9 (Operand.tmp 32) (Operand.const (Value.string { data := #[32] })) 9, type := _, pos := _, after := _, guard := none }) rfl (by kernel_rfl) (by kernel_rfl) (by kernel_rfl) (fun _ _ _ h => h) (Or.inl ⟨by kernel_rfl, ?_⟩) (by assumption) ?_
              rotate_left
              · (intro wx hSw; (try dsimp only at hSw); go_simp) <;> with_reducible rfl
              try simp only [Act.put, List.setIfInBounds_toArray, List.set_cons_zero, List.set_cons_succ]
              refine wpAnyH_ready (rs := [8]) (by kernel_rfl) (by simp) ?_
              refine (AllReadyH.cons rfl (fun K hK => ?_) AllReadyH.nil)
              go_simp
              refine (c2.out _).mono ?_
              rintro e' W8 ⟨rfl, hG8⟩
              go_wp2_with fail
              refine hK.out _ _ (H3.trans hG8 fun _ _ h => h) (fun H8 => ?_)
              clear hK K H3 hG8
              try simp only [Act.put, List.setIfInBounds_toArray, List.set_cons_zero, List.set_cons_succ]
              refine wpAnyH_take (i := 9) (v := ?_) (oi := { dst := some 37, op := Op.binOp BinOp.add 9 (Operand.tmp 33) (Operand.tmp 36) 9, type := _, pos := _, after := _, guard := none }) rfl (by kernel_rfl) (by kernel_rfl) (by kernel_rfl) (fun _ _ _ h => h) (Or.inl ⟨by kernel_rfl, ?_⟩) (by assumption) ?_
              rotate_left
              · (intro wx hSw; (try dsimp only at hSw); go_simp) <;> with_reducible rfl
              try simp only [Act.put, List.setIfInBounds_toArray, List.set_cons_zero, List.set_cons_succ]
              refine wpAnyH_take (i := 10) (v := ?_) (oi := { dst := some 38, op := Op.binOp BinOp.add 9 (Operand.tmp 37) (Operand.const (Value.string { data := #[32] })) 9, type := _, pos := _, after := _, guard := none }) rfl (by kernel_rfl) (by kernel_rfl) (by kernel_rfl) (fun _ _ _ h => h) (Or.inl ⟨by kernel_rfl, ?_⟩) (by assumption) ?_
              rotate_left
              · (intro wx hSw; (try dsimp only at hSw); go_simp) <;> with_reducible rfl
              try simp only [Act.put, List.setIfInBounds_toArray, List.set_cons_zero, List.set_cons_succ]
              refine wpAnyH_ready (rs := [13]) (by kernel_rfl) (by simp) ?_
              refine (AllReadyH.cons rfl (fun K hK => ?_) AllReadyH.nil)
              go_simp
              refine (c3.out _).mono ?_
              rintro e' W13 ⟨rfl, hG13⟩
              go_wp2_with fail
              refine hK.out _ _ (H8.trans hG13 fun _ _ h => h) (fun H13 => ?_)
              clear hK K H8 hG13
              try simp only [Act.put, List.setIfInBounds_toArray, List.set_cons_zero, List.set_cons_succ]
              refine wpAnyH_take (i := 14) (v := ?_) (oi := { dst := some 42, op := Op.binOp BinOp.add 9 (Operand.tmp 38) (Operand.tmp 41) 9, type := _, pos := _, after := _, guard := none }) rfl (by kernel_rfl) (by kernel_rfl) (by kernel_rfl) (fun _ _ _ h => h) (Or.inl ⟨by kernel_rfl, ?_⟩) (by assumption) ?_
              rotate_left
              · (intro wx hSw; (try dsimp only at hSw); go_simp) <;> with_reducible rfl
              try simp only [Act.put, List.setIfInBounds_toArray, List.set_cons_zero, List.set_cons_succ]
              refine wpAnyH_take (i := 15) (v := ?_) (oi := { dst := some 3, op := Op.assign (Operand.tmp 42), type := _, pos := _, after := _, guard := none }) rfl (by kernel_rfl) (by kernel_rfl) (by kernel_rfl) (fun _ _ _ h => h) (Or.inl ⟨by kernel_rfl, ?_⟩) (by assumption) ?_
              rotate_left
              · (intro wx hSw; (try dsimp only at hSw); go_simp) <;> with_reducible rfl
              try simp only [Act.put, List.setIfInBounds_toArray, List.set_cons_zero, List.set_cons_succ]
              refine wpAnyH_done (by kernel_rfl) ?_ _
              go_wp2_with fail
              go_meet
              exact ⟨rfl, hid (by assumption)⟩
          case rest =>
            obtain ⟨rfl, GC⟩ := hcut
            have R9c := hid (GC.out.heap R9.out (fun h => h))
            have Gc := hid (G9.out.trans GC.out fun _ _ h => h)
            have k9 := cells_at R9c.out
            clear x0 x1 x2 R9 G9 GC s1 s2 s3 s4 s5 c1 c2 c3
            cases ff
            · go_wp2_with fail
              go_roundw
              case rel => exact ⟨k + 1, by omega, by go_num, by rw [HSS.out]; rfl, Gc⟩
              case measure => simp [intOf]; omega
            · go_wp2_with fail
              go_roundw
              case rel => exact ⟨k + 1, by omega, by go_num, by rw [HSS.out]; rfl, Gc⟩
              case measure => simp [intOf]; omega
        · obtain rfl : m = k := by omega
          have hlt' : ¬ (m : Int) < (m : Int) := by omega
          go_wp2_with fail
          go_ret
          exact ⟨by rw [HTT.out]; rfl, HGw.out.trans GR.out fun _ _ h => h⟩
end Go.Proofs.Ytopkehknaclhlaa
