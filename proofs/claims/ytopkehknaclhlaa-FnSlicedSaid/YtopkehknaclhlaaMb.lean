/- Small tests of the program on numbers and modules: zero and not -0; a bare module. Conditions: as each says. -/
import Derived.Test.YtopkehknaclhlaaMo
import Derived.Deep.RegionWith
namespace Go.Proofs.Ytopkehknaclhlaa
open Go Go.RowKit

theorem run_f32bits (w : World) (x : Nat) : (callFunc 169 #[.float .f32 x]).run Try.prog w = .ok (.value (.int .u32 x)) w := by
  rw [run_callFunc_extern (fn := Try.f169) (e := Extern.MathFloatBits.float32bits) Try.func169 (by kernel_rfl) (by kernel_rfl) (by kernel_rfl) (by kernel_rfl)]
  rfl
theorem run_f32frombits (w : World) (x : Int) : (callFunc 168 #[.int .u32 x]).run Try.prog w = .ok (.value (.float .f32 x.toNat)) w := by
  rw [run_callFunc_extern (fn := Try.f168) (e := Extern.MathFloatBits.float32frombits) Try.func168 (by kernel_rfl) (by kernel_rfl) (by kernel_rfl) (by kernel_rfl)]
  rfl

set_option maxHeartbeats 400000 in
theorem isNought_calls (w : World) (x : Nat) : Calls Try.prog 153 #[.float .f32 x] w (fun e w' => e = .returned (.bool (((x : Nat) : Int) == 0)) ∧ w = w') := by
  have hx := @run_f32bits
  go_enter Try.func153, Try.ntmps153
  go_wp2
  go_ret
  exact ⟨rfl, rfl⟩
end Go.Proofs.Ytopkehknaclhlaa

/- Copies of slices: what 'slices.Clone' hands back reads as what was given and is new. Conditions: at most 2^20 elements. -/
namespace Go.Proofs.Ytopkehknaclhlaa
open Go Go.RowKit

/-- A complex number of single precision, by the words of its parts. -/
def cx (z : Nat × Nat) : Value := .complex .f32 z.1 z.2

/-- A slice that stands at the head of a block of its own (or is nil) and reads as the list. -/
def OwnC (w : World) (base : Nat) (v : Value) (xs : List (Nat × Nat)) : Prop := w.ownsRow base 33 1 v xs.length (xs.map cx)

theorem OwnC.chg {S : Nat → Prop} {w w' : World} {base : Nat} {v : Value} {xs : List (Nat × Nat)} (h : OwnC w base v xs) (g : Chg S w w') (hS : ∀ n, base ≤ n → n < w.heap.size → ¬ S n) : OwnC w' base v xs := by
  obtain ⟨h1, h2⟩ := h
  refine ⟨h1, ?_⟩
  rcases h2 with h2 | ⟨b, cap, cur, hv, hb, hh, r⟩
  · exact .inl h2
  · exact .inr ⟨b, cap, cur, hv, hb, g.heap hh (hS b hb (heap_lt hh)), r⟩

theorem OwnC.nil (w : World) (base : Nat) : OwnC w base (.slice none 0 0) [] := World.ownsRow_nil w base _ _

/-- The block. -/
theorem OwnC.block {w : World} {base : Nat} {v : Value} {xs : List (Nat × Nat)} (h : OwnC w base v xs) :
    (v = .slice none 0 0 ∧ xs = []) ∨ ∃ g cap cur, v = .slice (some ⟨g, 0, none⟩) xs.length cap ∧ base ≤ g ∧ w.heap[g]? = some (.cells cur 33 (0, 0)) ∧ xs.length ≤ cap ∧ cap ≤ maxLen ∧
      ∀ k (hk : k < xs.length), cur[k]? = some (cx xs[k]) := by
  obtain ⟨_, h2⟩ := h
  rcases h2 with ⟨rfl, hn⟩ | ⟨g, cap, cur, hv, hb, hh, hc, hm, hs, ht⟩
  · exact .inl ⟨rfl, List.eq_nil_of_length_eq_zero hn⟩
  · refine .inr ⟨g, cap, cur, hv, hb, hh, hc, hm, fun k hk => ?_⟩
    have h := congrArg (fun l => l[k]?) ht
    simp only [Nat.mul_one] at h
    rw [List.getElem?_take_of_lt hk] at h
    simpa [hk] using h

/-- A copy comes back: new blocks alone. -/
def RClone (w : World) (v : Value) (xs : List (Nat × Nat)) (e : Ending) (w' : World) : Prop :=
  ∃ a' c', e = .returned (.slice a' xs.length c') ∧ OwnC w' w.heap.size (.slice a' xs.length c') xs ∧ (v = .slice none 0 0 → a' = none ∧ c' = 0) ∧ Chg (fun _ => False) w w'

set_option maxHeartbeats 400000 in
theorem CloneC_calls (w : World) (v : Value) (xs : List (Nat × Nat)) (hx : xs.length ≤ 1048576) (ho : OwnC w 0 v xs) : Calls Try.prog 97 #[v] w (RClone w v xs) := by
  have hnil := fun (w : World) (a : Option Addr) (l c : Nat) => Lib.run_eql_slice_nil (P := Try.prog) w 25 33 a l c 0 0 Try.underlying25
  rcases ho.block with ⟨rfl, rfl⟩ | ⟨g, cap, cur, rfl, hg, hh, hc, hm, hcell⟩
  · go_enter Try.func97, Try.ntmps97
    go_wp2
    go_ret
    exact ⟨none, 0, rfl, OwnC.nil _ _, fun _ => ⟨rfl, rfl⟩, Chg.refl _ w⟩
  · have HH := hid hh
    have HO := hid ho
    have HC := hid hcell
    clear hh ho hcell
    obtain ⟨i, hi, hz, hs, hby⟩ := info_parts info33
    go_enter Try.func97, Try.ntmps97
    have hown : (w.alloc (.cells #[] 33)).ownsRow w.heap.size 33 1 (.slice (some ⟨w.heap.size, 0, none⟩) 0 0) 0 [] := World.ownsRow_lit w #[] 0 (Nat.le_refl _) (by omega) rfl
    have hcells : ∀ j u, (xs.map cx)[j]? = some u → (w.alloc (.cells #[] 33)).cell? ((⟨g, 0, none⟩ : Addr).add j) = some u := fun j u hu => by
      rw [Addr.add_lit, Nat.zero_add]
      have hj : j < xs.length := by
        rcases Nat.lt_or_ge j xs.length with h | h
        · exact h
        · simp [List.getElem?_eq_none (l := xs.map cx) (by simpa using h)] at hu
      rw [cell_at (heap_old HH.out), HC.out j hj]
      simpa [hj] using hu
    have HN := hid hcells
    have HW := hid hown
    clear hcells hown
    go_wp2_with (at_builtin; refine wpList_append_own _ rfl _ _ 25 rfl w.heap.size 33 i (.complex .f32 0 0) 1 8 Try.underlying25 hi hz hs hby rfl (by decide) _ 0 _ rfl HW.out ⟨g, 0, none⟩ xs.length cap (xs.map cx) rfl (by simp) HN.out ?c1 ?c2 ?c3 ?c4 ?_)
    case c1 => intro u hu; simp [cx] at hu; obtain ⟨a, b, _, rfl⟩ := hu; rfl
    case c2 => unfold maxLen; omega
    case c3 => omega
    case c4 => simp
    intro v' w' hown' hgrow hnilv
    obtain ⟨a', c', hv'⟩ : ∃ a' c', v' = .slice a' xs.length c' := by
      rcases hown'.2 with ⟨rfl, hn⟩ | ⟨b, cap, cur, rfl, _⟩
      · exact ⟨none, 0, by rw [show xs.length = 0 by omega]⟩
      · exact ⟨_, _, rfl⟩
    subst hv'
    go_wp2
    go_ret
    refine ⟨a', c', rfl, ?_, ?_, ?_⟩
    · simpa [OwnC] using hown'
    · intro h; cases h
    · exact ((Chg.refl _ w).alloc _).trans (Chg.of_grown (S := fun n => n = w.heap.size) hgrow (fun n hn _ => by simpa [Value.ownBlock] using hn)) (fun n hn e => by omega)
end Go.Proofs.Ytopkehknaclhlaa

/- Copies of slices of ints: what 'slices.Clone' hands back reads as what was given and is new. Conditions: at most 2^20 elements. -/
namespace Go.Proofs.Ytopkehknaclhlaa
open Go Go.RowKit

theorem info3 : (Try.prog.info? 3).map (fun i => (i.zero, i.size, i.bytes)) = some (some (.int .i64 0), 1, 8) := by kernel_rfl

/-- A slice that stands at the head of a block of its own (or is nil) and reads as the list. -/
def OwnI (w : World) (base : Nat) (v : Value) (xs : List Int) : Prop := w.ownsRow base 3 1 v xs.length (xs.map (Value.int .i64))

theorem OwnI.chg {S : Nat → Prop} {w w' : World} {base : Nat} {v : Value} {xs : List Int} (h : OwnI w base v xs) (g : Chg S w w') (hS : ∀ n, base ≤ n → n < w.heap.size → ¬ S n) : OwnI w' base v xs := by
  obtain ⟨h1, h2⟩ := h
  refine ⟨h1, ?_⟩
  rcases h2 with h2 | ⟨b, cap, cur, hv, hb, hh, r⟩
  · exact .inl h2
  · exact .inr ⟨b, cap, cur, hv, hb, g.heap hh (hS b hb (heap_lt hh)), r⟩

theorem OwnI.nil (w : World) (base : Nat) : OwnI w base (.slice none 0 0) [] := World.ownsRow_nil w base _ _

/-- The block. -/
theorem OwnI.block {w : World} {base : Nat} {v : Value} {xs : List Int} (h : OwnI w base v xs) :
    (v = .slice none 0 0 ∧ xs = []) ∨ ∃ g cap cur, v = .slice (some ⟨g, 0, none⟩) xs.length cap ∧ base ≤ g ∧ w.heap[g]? = some (.cells cur 3 (0, 0)) ∧ xs.length ≤ cap ∧ cap ≤ maxLen ∧
      ∀ k (hk : k < xs.length), cur[k]? = some (.int .i64 xs[k]) := by
  obtain ⟨_, h2⟩ := h
  rcases h2 with ⟨rfl, hn⟩ | ⟨g, cap, cur, hv, hb, hh, hc, hm, hs, ht⟩
  · exact .inl ⟨rfl, List.eq_nil_of_length_eq_zero hn⟩
  · refine .inr ⟨g, cap, cur, hv, hb, hh, hc, hm, fun k hk => ?_⟩
    have h := congrArg (fun l => l[k]?) ht
    simp only [Nat.mul_one] at h
    rw [List.getElem?_take_of_lt hk] at h
    simpa [hk] using h

/-- A copy comes back: new blocks alone. -/
def RCloneI (w : World) (v : Value) (xs : List Int) (e : Ending) (w' : World) : Prop :=
  ∃ a' c', e = .returned (.slice a' xs.length c') ∧ OwnI w' w.heap.size (.slice a' xs.length c') xs ∧ (v = .slice none 0 0 → a' = none ∧ c' = 0) ∧ Chg (fun _ => False) w w'

set_option maxHeartbeats 400000 in
theorem CloneI_calls (w : World) (v : Value) (xs : List Int) (hx : xs.length ≤ 1048576) (ho : OwnI w 0 v xs) : Calls Try.prog 185 #[v] w (RCloneI w v xs) := by
  have hnil := fun (w : World) (a : Option Addr) (l c : Nat) => Lib.run_eql_slice_nil (P := Try.prog) w 34 3 a l c 0 0 Try.underlying34
  rcases ho.block with ⟨rfl, rfl⟩ | ⟨g, cap, cur, rfl, hg, hh, hc, hm, hcell⟩
  · go_enter Try.func185, Try.ntmps185
    go_wp2
    go_ret
    exact ⟨none, 0, rfl, OwnI.nil _ _, fun _ => ⟨rfl, rfl⟩, Chg.refl _ w⟩
  · have HH := hid hh
    have HO := hid ho
    have HC := hid hcell
    clear hh ho hcell
    obtain ⟨i, hi, hz, hs, hby⟩ := info_parts info3
    go_enter Try.func185, Try.ntmps185
    have hown : (w.alloc (.cells #[] 3)).ownsRow w.heap.size 3 1 (.slice (some ⟨w.heap.size, 0, none⟩) 0 0) 0 [] := World.ownsRow_lit w #[] 0 (Nat.le_refl _) (by omega) rfl
    have hcells : ∀ j u, (xs.map (Value.int .i64))[j]? = some u → (w.alloc (.cells #[] 3)).cell? ((⟨g, 0, none⟩ : Addr).add j) = some u := fun j u hu => by
      rw [Addr.add_lit, Nat.zero_add]
      have hj : j < xs.length := by
        rcases Nat.lt_or_ge j xs.length with h | h
        · exact h
        · simp [List.getElem?_eq_none (l := xs.map (Value.int .i64)) (by simpa using h)] at hu
      rw [cell_at (heap_old HH.out), HC.out j hj]
      simpa [hj] using hu
    have HN := hid hcells
    have HW := hid hown
    clear hcells hown
    go_wp2_with (at_builtin; refine wpList_append_own _ rfl _ _ 34 rfl w.heap.size 3 i (.int .i64 0) 1 8 Try.underlying34 hi hz hs hby rfl (by decide) _ 0 _ rfl HW.out ⟨g, 0, none⟩ xs.length cap (xs.map (Value.int .i64)) rfl (by simp) HN.out ?c1 ?c2 ?c3 ?c4 ?_)
    case c1 => intro u hu; simp at hu; obtain ⟨a, _, rfl⟩ := hu; rfl
    case c2 => unfold maxLen; omega
    case c3 => omega
    case c4 => simp
    intro v' w' hown' hgrow hnilv
    obtain ⟨a', c', hv'⟩ : ∃ a' c', v' = .slice a' xs.length c' := by
      rcases hown'.2 with ⟨rfl, hn⟩ | ⟨b, cap, cur, rfl, _⟩
      · exact ⟨none, 0, by rw [show xs.length = 0 by omega]⟩
      · exact ⟨_, _, rfl⟩
    subst hv'
    go_wp2
    go_ret
    refine ⟨a', c', rfl, ?_, ?_, ?_⟩
    · simpa [OwnI] using hown'
    · intro h; cases h
    · exact ((Chg.refl _ w).alloc _).trans (Chg.of_grown (S := fun n => n = w.heap.size) hgrow (fun n hn _ => by simpa [Value.ownBlock] using hn)) (fun n hn e => by omega)
end Go.Proofs.Ytopkehknaclhlaa

/- Copies of tables, rings and modules: they read as what was given and are new. Conditions: at most 2^20 elements a slice. -/
namespace Go.Proofs.Ytopkehknaclhlaa
open Go Go.RowKit

theorem OwnC.mono {w : World} {b b' : Nat} {v : Value} {xs : List (Nat × Nat)} (h : OwnC w b v xs) (hb : b' ≤ b) : OwnC w b' v xs := by
  obtain ⟨h1, h2⟩ := h
  refine ⟨h1, ?_⟩
  rcases h2 with h2 | ⟨g, cap, cur, hv, hg, r⟩
  · exact .inl h2
  · exact .inr ⟨g, cap, cur, hv, Nat.le_trans hb hg, r⟩
theorem OwnI.mono {w : World} {b b' : Nat} {v : Value} {xs : List Int} (h : OwnI w b v xs) (hb : b' ≤ b) : OwnI w b' v xs := by
  obtain ⟨h1, h2⟩ := h
  refine ⟨h1, ?_⟩
  rcases h2 with h2 | ⟨g, cap, cur, hv, hg, r⟩
  · exact .inl h2
  · exact .inr ⟨g, cap, cur, hv, Nat.le_trans hb hg, r⟩

/-- A table's copy comes back. -/
def RTab (w : World) (v u : Value) (xs : List (Nat × Nat)) (zs : List Int) (e : Ending) (w' : World) : Prop :=
  ∃ a c a' c', e = .returned (.agg #[.slice a xs.length c, .slice a' zs.length c']) ∧ OwnC w' w.heap.size (.slice a xs.length c) xs ∧ OwnI w' w.heap.size (.slice a' zs.length c') zs ∧ (v = .slice none 0 0 → a = none ∧ c = 0) ∧ (u = .slice none 0 0 → a' = none ∧ c' = 0) ∧ Chg (fun _ => False) w w'

set_option maxHeartbeats 2000000 in
theorem copyTable_calls (w : World) (v u : Value) (xs : List (Nat × Nat)) (zs : List Int) (hx : xs.length ≤ 1048576) (hz : zs.length ≤ 1048576) (ho : OwnC w 0 v xs) (hi : OwnI w 0 u zs) :
    Calls Try.prog 155 #[.agg #[v, u]] w (RTab w v u xs zs) := by
  have HO := hid ho
  have HI := hid hi
  obtain ⟨a, n, c, hv⟩ : ∃ a n c, v = .slice a n c := by
    rcases ho.block with ⟨rfl, _⟩ | ⟨g, cap, cur, rfl, _⟩ <;> exact ⟨_, _, _, rfl⟩
  obtain ⟨a2, n2, c2, hu⟩ : ∃ a n c, u = .slice a n c := by
    rcases hi.block with ⟨rfl, _⟩ | ⟨g, cap, cur, rfl, _⟩ <;> exact ⟨_, _, _, rfl⟩
  subst hv hu
  clear ho hi
  go_enter Try.func155, Try.ntmps155
  go_wp2_with fail
  go_region_with (first
    | (go_at_call 97; refine (CloneC_calls _ _ xs hx ?_).mono ?_; exact HO.out.chg ((((Chg.refl (fun _ => False) w).alloc _).alloc _).drew) (fun _ _ _ h => h); rintro e w1 ⟨b1, d1, rfl, o1, m1, g1⟩; have k1 := cells_at (g1.heap (heap_old (heap_new w _)) id); have z1 := g1.size; simp at z1)
    | (go_at_call 185; refine (CloneI_calls _ _ zs hz ?_).mono ?_; exact HI.out.chg (((((Chg.refl (fun _ => False) w).alloc _).alloc _).drew).trans g1 fun _ _ h => h) (fun _ _ _ h => h); rintro e w2 ⟨b2, d2, rfl, o2, m2, g2⟩; have k2 := cells_at (g2.heap (g1.heap (heap_new' (w := w.alloc _) (b := w.heap.size + 1) (by simp)) id) id); have z2 := g2.size; have f2 := frees_at (g2.heap (g1.heap (heap_new' (w := w.alloc _) (b := w.heap.size + 1) (by simp)) id) id)))
  all_goals
    go_wp2
    refine bodyPost_ret (v := .agg #[.slice b1 xs.length d1, .slice b2 zs.length d2]) (by simp [results, Try.results155, go_sem, k2]) rfl ?_
    have g3 := (Chg.refl (fun k => k = w.heap.size + 1) w2).setCell (p := ⟨w.heap.size + 1, 0, none⟩) (.inl rfl) (.slice b1 xs.length d1) |>.setCell (p := ⟨w.heap.size + 1, 1, none⟩) (.inl rfl) (.slice b2 zs.length d2)
    refine ⟨b1, d1, b2, d2, rfl, ((o1.chg g2 fun _ _ _ h => h).chg g3 fun k hk _ e => ?_).mono (by simp; omega), (o2.chg g3 fun k hk _ e => ?_).mono (by omega), m1, m2, ?_⟩
    · simp at hk; omega
    · omega
    · exact (((((Chg.refl (fun _ => False) w).alloc _).alloc _).drew.trans g1 fun _ _ h => h).trans g2 fun _ _ h => h).trans g3 (fun k hk e => by omega)
end Go.Proofs.Ytopkehknaclhlaa
