/- 'fresh': bytes out of bytes. Condition: at most 2^20 bytes come in. -/
import Derived.Test.YtopkehknaclhlaaSm
namespace Go.Proofs.Ytopkehknaclhlaa
open Go Go.RowKit

theorem info5 : (Try.prog.info? 5).map (fun i => (i.zero, i.size, i.bytes)) = some (some (.int .u8 0), 1, 1) := by kernel_rfl

/-- A byte slice at the head of a block of its own (or nil) that reads as the list. -/
def OwnB (w : World) (base : Nat) (v : Value) (zs : List Int) : Prop := w.ownsRow base 5 1 v zs.length (zs.map (Value.int .u8)) ∧ ∀ z ∈ zs, 0 ≤ z ∧ z ≤ 255

theorem OwnB.chg {S : Nat → Prop} {w w' : World} {base : Nat} {v : Value} {zs : List Int} (h : OwnB w base v zs) (g : Chg S w w') (hS : ∀ n, base ≤ n → n < w.heap.size → ¬ S n) : OwnB w' base v zs := by
  obtain ⟨⟨h1, h2⟩, h3⟩ := h
  refine ⟨⟨h1, ?_⟩, h3⟩
  rcases h2 with h2 | ⟨b, cap, cur, hv, hb, hh, r⟩
  · exact .inl h2
  · exact .inr ⟨b, cap, cur, hv, hb, g.heap hh (hS b hb (heap_lt hh)), r⟩

theorem OwnB.own_lt {w : World} {b : Nat} {v : Value} {zs : List Int} (h : OwnB w b v zs) {n : Nat} (hn : some n = v.ownBlock) : b ≤ n ∧ n < w.heap.size := by
  rcases h.1.2 with ⟨rfl, _⟩ | ⟨g', cap, cur, rfl, hb, hh, _⟩
  · simp [Value.ownBlock] at hn
  · simp [Value.ownBlock] at hn
    subst hn
    exact ⟨hb, heap_lt hh⟩

theorem OwnB.form {w : World} {b : Nat} {v : Value} {zs : List Int} (h : OwnB w b v zs) : ∃ a c, v = .slice a zs.length c := by
  rcases h.1.2 with ⟨rfl, hn⟩ | ⟨g', cap, cur, rfl, hb, hh, _⟩
  · exact ⟨none, 0, by rw [hn]⟩
  · exact ⟨_, _, rfl⟩

theorem OwnB.bytes {w : World} {b : Nat} {a : Option Addr} {n c : Nat} {zs : List Int} (h : OwnB w b (.slice a n c) zs) (hl : zs.length ≤ 1048576) : n = zs.length ∧ Bytes w w.heap.size a n c := by
  obtain ⟨a', c', hv⟩ := h.form
  simp at hv
  obtain ⟨rfl, rfl, rfl⟩ := hv
  refine ⟨rfl, ?_⟩
  rcases h.1.2 with ⟨h1, hn⟩ | ⟨g', cap, cur, hv, hb, hh, hc, hm, hs, ht⟩
  · simp at h1
    obtain ⟨rfl, h1, rfl⟩ := h1
    exact ⟨by simp [hn], hl, fun k hk => by simp [h1] at hk⟩
  · simp at hv
    obtain ⟨rfl, rfl⟩ := hv
    refine ⟨hc, hl, fun k hk => ⟨g', 0, zs[k], rfl, heap_lt hh, ?_, h.2 _ (by simp)⟩⟩
    have h := congrArg (fun l => l[k]?) ht
    simp only [Nat.mul_one] at h
    rw [List.getElem?_take_of_lt hk] at h
    rw [Nat.zero_add, cell_at hh]
    simpa [hk] using h

theorem OwnB.lit (w : World) (z : Int) (hz : 0 ≤ z ∧ z ≤ 255) {base : Nat} (hb : base ≤ w.heap.size) :
    OwnB (w.alloc (.cells #[.int .u8 z] 5)) base (.slice (some ⟨w.heap.size, 0, none⟩) 1 1) [z] :=
  ⟨World.ownsRow_lit (base := base) (e := 5) (size := 1) w #[.int .u8 z] 1 hb (by unfold maxLen; omega) rfl, by simpa using hz⟩

/-- A byte is appended. -/
theorem wpList_appB {ops : Array Oper} {rest : List Oper} {o : Oper} {a : Act} {Q : Exit → Act → World → Prop} (w : World) (hgd : o.guard = none) (s x : Operand)
    (ho : o.op = .call { callee := .builtin .append, args := #[s, x], argTypes := #[47, 47] })
    (base : Nat) (v : Value) (zs : List Int) (z : Int) (hz : 0 ≤ z ∧ z ≤ 255) (hs : a.eval s = v) (hown : OwnB w base v zs) (g : Nat) (hx : a.eval x = .slice (some ⟨g, 0, none⟩) 1 1) (hg : w.cell? ⟨g, 0, none⟩ = some (.int .u8 z))
    (hlen : zs.length + 1 ≤ 1048576) (hbase : base ≤ w.heap.size)
    (h : ∀ a' c' w', OwnB w' base (.slice a' (zs ++ [z]).length c') (zs ++ [z]) → Chg (fun n => some n = v.ownBlock) w w' → wpList Try.prog ops Q rest (a.put o.dst (.slice a' (zs ++ [z]).length c')) w') :
    wpList Try.prog ops Q (o :: rest) a w := by
  obtain ⟨i, hi, hzz, hsz, hby⟩ := info_parts info5
  refine wpList_append_own w hgd s x 47 ho base 5 i (.int .u8 0) 1 1 Try.underlying47 hi hzz hsz hby rfl (by decide) v zs.length (zs.map (Value.int .u8)) hs hown.1 ⟨g, 0, none⟩ 1 1 [.int .u8 z] hx rfl (fun j u hu => ?_) (by simp [Value.oneCell']) (by unfold maxLen; omega) (by omega) hbase ?_
  · cases j with
    | zero => simp at hu; subst hu; exact hg
    | succ j => simp at hu
  · intro v' w' hown' hgrow _
    have hown2 : OwnB w' base v' (zs ++ [z]) := ⟨by simpa using hown', fun y hy => by
      rcases List.mem_append.1 hy with hy | hy
      · exact hown.2 y hy
      · simp at hy; subst hy; exact hz⟩
    obtain ⟨a', c', rfl⟩ := hown2.form
    exact h a' c' w' hown2 (Chg.of_grown hgrow fun n hn _ => hn)

theorem wrap_u8 (x : Int) : 0 ≤ IntKind.u8.wrap x ∧ IntKind.u8.wrap x ≤ 255 := by
  simp [IntKind.wrap, IntKind.signed, IntKind.bits]
  omega

/-- Bytes come back. -/
def RFresh (w : World) (e : Ending) (w' : World) : Prop :=
  ∃ a len cap, len ≤ 601 ∧ e = .returned (.slice a len cap) ∧ Bytes w' w'.heap.size a len cap ∧ Chg (fun _ => False) w w'

set_option maxRecDepth 100000 in
set_option maxHeartbeats 2000000 in
theorem fresh_calls (w : World) (a : Option Addr) (len cap : Nat) (hy : Bytes w w.heap.size a len cap) (salt : Nat) (hs : salt ≤ 255) :
    Calls Try.prog 45 #[.slice a len cap, .int .i64 (salt : Int)] w (RFresh w) := by
  have HY := hid hy
  have hl := hy.2.1
  clear hy
  go_enter Try.func45, Try.ntmps45
  have O0 := hid (OwnB.lit w (salt : Int) (by omega) (Nat.le_refl w.heap.size))
  have e0 : IntKind.u8.wrap (salt : Int) = (salt : Int) := by simp [IntKind.wrap, IntKind.signed, IntKind.bits]; omega
  go_wp2_with fail
  go_loopw [5, 6] (fun s i wr => ∃ (ao : Option Addr) (cap' k : Nat) (zs : List Int), k ≤ 600 ∧ k ≤ len ∧ i = .int .i64 (k : Int) ∧ Hid (zs.length = k + 1) ∧ s = .slice ao (k + 1) cap' ∧ Hid (OwnB wr w.heap.size (.slice ao (k + 1) cap') zs) ∧ Hid (Chg (fun _ => False) w wr)) (fun _ i _ => len - (intOf i).toNat)
  case atStart => exact ⟨_, _, 0, [_], by omega, by omega, rfl, hid rfl, rfl, O0, hid ((Chg.refl (fun _ => False) w).alloc _)⟩
  case round =>
    obtain ⟨ao, cap', k, zs, hk1, hk2, rfl, hzs, rfl, HO, G⟩ := hrel
    clear O0 e0
    have z0 := G.out.size
    by_cases hlt : k < len
    · have hlt' : (k : Int) < (len : Int) := by omega
      by_cases h600 : k < 600
      · have h600' : (k : Int) < 600 := by omega
        have i0 : (0 : Int) ≤ ((k : Nat) : Int) := by omega
        obtain ⟨b, off, z, rfl, hb, hz, hz0, hz1⟩ := HY.out.2.2 k hlt
        replace hz := G.out.cell hz id
        go_wp2_with (at_builtin; refine wpList_appB _ rfl _ _ rfl w.heap.size _ zs _ (by omega) rfl (HO.out.chg ((Chg.refl (fun _ => False) wr).alloc _) (fun _ _ _ h => h)) wr.heap.size rfl (cell_at (heap_new wr _)) (by rw [hzs.out]; omega) (by simp; omega) ?_)
        intro a' c' w' hO hG
        simp only [hzs.out] at hO ⊢
        have HO5 := hid hO
        have GT := ((Chg.refl (fun n => some n = (Value.slice ao (k + 1) cap').ownBlock) wr).alloc (.cells #[.int .u8 ((wrap64 (z * 3 + wrap64 (↑salt * (↑k % 7 + 1)))) % 256)] 5)).trans hG (fun _ _ h => h)
        have G5 := hid (G.out.trans GT (fun n h1 h2 => absurd h1 (by have := (HO.out.own_lt h2); omega)))
        have hz5 := hid (show (zs ++ [(wrap64 (z * 3 + wrap64 (↑salt * (↑k % 7 + 1)))) % 256]).length = k + 1 + 1 by simp [hzs.out])
        clear hO hG GT HO G hzs
        go_wp2
        go_roundw
        case rel => exact ⟨a', c', k + 1, _, by omega, by omega, by go_num, hz5, rfl, HO5, G5⟩
        case measure => simp [intOf]; omega
      · have h600' : ¬ (k : Int) < 600 := by omega
        go_wp2
        go_ret
        exact ⟨_, _, _, by omega, rfl, (HO.out.bytes (by have := hzs.out; omega)).2, G.out⟩
    · have hlt' : ¬ (k : Int) < (len : Int) := by omega
      go_wp2
      go_ret
      exact ⟨_, _, _, by omega, rfl, (HO.out.bytes (by have := hzs.out; omega)).2, G.out⟩
end Go.Proofs.Ytopkehknaclhlaa
