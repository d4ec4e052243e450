/- Words for what a call does to memory: which old blocks it may change; blocks known whole; a cursor over bytes. Plain facts, no condition. -/
import Derived.Test.YtopkehknaclhlaaProg
import Derived.Test.YtopkehknaclhlaaFm
import Derived.Deep.QuietTactic
import Derived.BigQuiet
import Derived.WalkSpells
import Derived.Outline
namespace Go.Proofs.Ytopkehknaclhlaa
open Go Go.RowKit

/-- A fact kept from the walk. -/
theorem hid {p : Prop} (h : p) : Hid p := h

theorem i64_and255 (n : Int) : bits .and .i64 n 255 = n % 256 := by
  have h : (BitVec.ofInt 64 255).toNat = 2 ^ 8 - 1 := by decide
  have key : (BitVec.ofInt 64 n &&& BitVec.ofInt 64 255).toNat = (n % ((2 ^ 64 : Nat) : Int)).toNat % 2 ^ 8 := by
    rw [BitVec.toNat_and, BitVec.toNat_ofInt, h, Nat.and_two_pow_sub_one_eq_mod]
  show IntKind.i64.wrap ((BitVec.ofInt 64 n &&& BitVec.ofInt 64 255).toNat : Nat) = n % 256
  rw [key, IntKind.wrap_i64]
  omega

/-- Of the blocks that were there only those of S may have turned. -/
structure Chg (S : Nat → Prop) (w w' : World) : Prop where
  os : w'.os = w.os
  tape : w'.tape = w.tape
  output : w'.output = w.output
  size : w.heap.size ≤ w'.heap.size
  block : ∀ k, k < w.heap.size → ¬ S k → w'.heap[k]? = w.heap[k]?

namespace Chg
variable {S T : Nat → Prop} {a b c w w' : World}
theorem refl (S : Nat → Prop) (w : World) : Chg S w w := ⟨rfl, rfl, rfl, Nat.le_refl _, fun _ _ _ => rfl⟩
theorem trans (h : Chg S a b) (k : Chg T b c) (hT : ∀ n, n < a.heap.size → T n → S n) : Chg S a c :=
  ⟨k.os.trans h.os, k.tape.trans h.tape, k.output.trans h.output, Nat.le_trans h.size k.size,
   fun n hn hs => (k.block n (Nat.lt_of_lt_of_le hn h.size) fun ht => hs (hT n hn ht)).trans (h.block n hn hs)⟩
theorem mono (h : Chg T a b) (hT : ∀ n, n < a.heap.size → T n → S n) : Chg S a b := (refl S a).trans h hT
theorem drew (h : Chg S a b) : Chg S a b.drew := ⟨h.os, h.tape, h.output, h.size, h.block⟩
theorem drewN (h : Chg S a b) (n : Nat) : Chg S a (b.drewN n) := ⟨h.os, h.tape, h.output, h.size, h.block⟩
theorem alloc (h : Chg S a b) (o : Obj) : Chg S a (b.alloc o) :=
  h.trans (T := fun _ => False) ⟨rfl, rfl, rfl, by simp, fun k hk _ => Below.heap_alloc _ _ _ hk⟩ (fun _ _ x => x.elim)
theorem setCell (h : Chg S a b) {p : Addr} (hp : S p.block ∨ a.heap.size ≤ p.block) (u : Value) : Chg S a (b.setCell p u) :=
  h.trans (T := fun k => k = p.block) ⟨rfl, rfl, rfl, by simp, fun k _ hk => Below.heap_setCell _ _ _ _ hk⟩ (fun n hn e => by
    subst e
    rcases hp with hp | hp
    · exact hp
    · omega)
theorem of_below (h : Below w.heap.size w w') : Chg S w w' := ⟨h.os, h.tape, h.output, h.size, fun k hk _ => h.block k hk⟩
theorem of_grown {r : Option Nat} (h : w.grownBy w' r) (hr : ∀ n, some n = r → n < w.heap.size → S n) : Chg S w w' :=
  ⟨h.os, h.tape, h.output, h.size, fun k hk hs => h.block k hk fun e => hs (hr k e hk)⟩
theorem below (h : Chg (fun _ => False) w w') : Below w.heap.size w w' := ⟨h.os, h.tape, h.output, h.size, fun k hk => h.block k hk id⟩
theorem heap (h : Chg S w w') {k : Nat} {o : Obj} (ho : w.heap[k]? = some o) (hs : ¬ S k) : w'.heap[k]? = some o := by
  have hk : k < w.heap.size := by
    rcases Nat.lt_or_ge k w.heap.size with hk | hk
    · exact hk
    · simp [Array.getElem?_eq_none hk] at ho
  rw [h.block k hk hs, ho]
theorem cell (h : Chg S w w') {p : Addr} {v : Value} (hv : w.cell? p = some v) (hs : ¬ S p.block) : w'.cell? p = some v := by
  have hk : p.block < w.heap.size := World.block_lt_of_cell? _ _ hv
  rw [World.cell?_of_block (h.block p.block hk hs), hv]
end Chg

theorem heap_set {w : World} {c k : Nat} {arr : Array Value} {T : TypeId} {f : Nat × Nat} {v : Value} (h : w.heap[c]? = some (.cells arr T f)) :
    (w.setCell ⟨c, k, none⟩ v).heap[c]? = some (.cells (arr.setIfInBounds k v) T f) := by
  simp [World.setCell, Array.getElem?_modify, h]

theorem heap_new (w : World) (o : Obj) : (w.alloc o).heap[w.heap.size]? = some o := by
  show (w.heap.push o)[w.heap.size]? = some o
  simp

theorem heap_new' {w : World} {o : Obj} {b : Nat} (h : b = w.heap.size) : (w.alloc o).heap[b]? = some o := by
  subst h
  exact heap_new w o

theorem heap_old {w : World} {o o' : Obj} {b : Nat} (h : w.heap[b]? = some o) : (w.alloc o').heap[b]? = some o := by
  have hb : b < w.heap.size := by
    rcases Nat.lt_or_ge b w.heap.size with hk | hk
    · exact hk
    · simp [Array.getElem?_eq_none hk] at h
  rw [Below.heap_alloc _ _ _ hb, h]

theorem heap_lt {w : World} {k : Nat} {o : Obj} (h : w.heap[k]? = some o) : k < w.heap.size := by
  rcases Nat.lt_or_ge k w.heap.size with hk | hk
  · exact hk
  · simp [Array.getElem?_eq_none hk] at h

theorem cell_at {w : World} {c k : Nat} {arr : Array Value} {T : TypeId} {f : Nat × Nat} (h : w.heap[c]? = some (.cells arr T f)) : w.cell? ⟨c, k, none⟩ = arr[k]? := by
  simp [World.cell?, h]
theorem cells_at {w : World} {c : Nat} {arr : Array Value} {T : TypeId} {f : Nat × Nat} (h : w.heap[c]? = some (.cells arr T f)) : ∀ k, w.cell? ⟨c, k, none⟩ = arr[k]? := fun _ => cell_at h
theorem frees_at {w : World} {c : Nat} {arr : Array Value} {T : TypeId} (h : w.heap[c]? = some (.cells arr T (0, 0))) : ∀ k, w.frozen? ⟨c, k, none⟩ = false := fun k => by simp [World.frozen?, h]
theorem free_at {w : World} {c k : Nat} {arr : Array Value} {T : TypeId} (h : w.heap[c]? = some (.cells arr T (0, 0))) : w.frozen? ⟨c, k, none⟩ = false := by
  simp [World.frozen?, h]

/-- A slice of bytes that lies below block B. -/
def Bytes0 (w : World) (B : Nat) (a : Option Addr) (len cap : Nat) : Prop :=
  len ≤ cap ∧ len ≤ 9223372036854775807 ∧ ∀ k, k < len → ∃ b off z, a = some ⟨b, off, none⟩ ∧ b < B ∧ w.cell? ⟨b, off + k, none⟩ = some (.int .u8 z) ∧ 0 ≤ z ∧ z ≤ 255

/-- .. of at most 2^20 bytes. -/
def Bytes (w : World) (B : Nat) (a : Option Addr) (len cap : Nat) : Prop :=
  len ≤ cap ∧ len ≤ 1048576 ∧ ∀ k, k < len → ∃ b off z, a = some ⟨b, off, none⟩ ∧ b < B ∧ w.cell? ⟨b, off + k, none⟩ = some (.int .u8 z) ∧ 0 ≤ z ∧ z ≤ 255

/-- Block c is a cursor over bytes that lie below it. -/
def Cur (w : World) (c : Nat) : Prop :=
  ∃ a len cap i h, w.heap[c]? = some (.cells #[.slice a len cap, .int .i64 ((i : Nat) : Int), .int .i64 h] 158 (0, 0)) ∧ i ≤ len ∧ Bytes w c a len cap

theorem Bytes.chg {S : Nat → Prop} {w w' : World} {B : Nat} {a : Option Addr} {len cap : Nat} (h : Bytes w B a len cap) (g : Chg S w w') (hS : ∀ n, n < B → ¬ S n) : Bytes w' B a len cap :=
  ⟨h.1, h.2.1, fun k hk => by
    obtain ⟨b, off, z, e, hb, hz, h0⟩ := h.2.2 k hk
    exact ⟨b, off, z, e, hb, g.cell hz (hS b hb), h0⟩⟩

theorem Bytes0.of_row {w : World} {x : Addr} {len cap : Nat} {zs : List Int} (hl : len ≤ cap) (hm : cap ≤ maxLen) (hz : zs.length = cap) (hcell : ∀ i, i < zs.length → w.cell? (x.add i) = some (.int .u8 (zs.getD i 0))) (hwz : ∀ n ∈ zs, (Lit.int .u8 n).wf = true) :
    Bytes0 w w.heap.size (some x) len cap := by
  refine ⟨hl, by unfold maxLen at hm; omega, fun k hk => ?_⟩
  have hc := hcell k (by omega)
  obtain ⟨b, off, spot⟩ := x
  have hspot : spot = none := by
    have h := World.cell?_spot (hcell 0 (by omega))
    simpa [Addr.add] using h
  subst hspot
  rw [Addr.add_lit] at hc
  have hwf := hwz (zs.getD k 0) (by
    have hk' : k < zs.length := by omega
    simp [List.getD, hk'])
  have hr : 0 ≤ zs.getD k 0 ∧ zs.getD k 0 ≤ 255 := by simpa [Lit.wf, IntKind.min, IntKind.max, IntKind.signed, IntKind.bits] using hwf
  exact ⟨b, off, zs.getD k 0, rfl, World.block_lt_of_cell? _ _ hc, hc, hr⟩

/-- What a law's walk comes to: true; nothing that was there has turned. -/
def LawPost (w : World) (e : Ending) (w' : World) : Prop := e = .returned (.bool true) ∧ Chg (fun _ => False) w w'

/-- A cursor outlives what turns blocks behind it alone. -/
theorem Cur.chg {S : Nat → Prop} {w w' : World} {c : Nat} (h : Cur w c) (g : Chg S w w') (hS : ∀ n, n ≤ c → ¬ S n) : Cur w' c := by
  obtain ⟨a, len, cap, i, h, hb, hi, hy⟩ := h
  exact ⟨a, len, cap, i, h, g.heap hb (hS c (Nat.le_refl _)), hi, hy.chg g fun n hn => hS n (Nat.le_of_lt hn)⟩

theorem Cur.lt {w : World} {c : Nat} (h : Cur w c) : c < w.heap.size := by
  obtain ⟨_, _, _, _, _, hb, _⟩ := h
  exact heap_lt hb

/-- A number from lo to hi comes back; the cursor moves. -/
def RI (w : World) (c : Nat) (lo hi : Int) (e : Ending) (w' : World) : Prop :=
  ∃ x : Int, lo ≤ x ∧ x ≤ hi ∧ e = .returned (.int .i64 x) ∧ Cur w' c ∧ Chg (fun k => k = c) w w'

theorem RI.mk {w W : World} {c : Nat} {lo hi x : Int} {a : Option Addr} {len cap i : Nat} {h : Int} (hx : lo ≤ x ∧ x ≤ hi) (g : Chg (fun k => k = c) w W)
    (hb : W.heap[c]? = some (.cells #[.slice a len cap, .int .i64 ((i : Nat) : Int), .int .i64 h] 158 (0, 0))) (hi' : i ≤ len) (hy : Bytes w c a len cap) :
    RI w c lo hi (.returned (.int .i64 x)) W :=
  ⟨x, hx.1, hx.2, rfl, ⟨a, len, cap, i, h, hb, hi', hy.chg g fun n hn => by omega⟩, g⟩

/-- A bool comes back; the cursor moves. -/
def RB (w : World) (c : Nat) (e : Ending) (w' : World) : Prop :=
  ∃ x : Bool, e = .returned (.bool x) ∧ Cur w' c ∧ Chg (fun k => k = c) w w'

/-- A pointer to a new cursor comes back. -/
def RCur (w : World) (e : Ending) (w' : World) : Prop :=
  ∃ c, w.heap.size ≤ c ∧ e = .returned (.pointer (some ⟨c, 0, none⟩)) ∧ Cur w' c ∧ Chg (fun _ => False) w w'

/-- One of the list's numbers comes back; the cursor moves. -/
def ROne (w : World) (c : Nat) (zs : List Int) (e : Ending) (w' : World) : Prop :=
  ∃ x : Int, x ∈ zs ∧ e = .returned (.int .i64 x) ∧ Cur w' c ∧ Chg (fun k => k = c) w w'

/-- A number of single precision comes back; the cursor moves. -/
def RF (w : World) (c : Nat) (e : Ending) (w' : World) : Prop :=
  ∃ b : Nat, b < 4294967296 ∧ e = .returned (.float .f32 b) ∧ Cur w' c ∧ Chg (fun k => k = c) w w'

/-- A complex number comes back; the cursor moves. -/
def RC (w : World) (c : Nat) (e : Ending) (w' : World) : Prop :=
  ∃ a b : Nat, a < 4294967296 ∧ b < 4294967296 ∧ e = .returned (.complex .f32 a b) ∧ Cur w' c ∧ Chg (fun k => k = c) w w'

/-- 'float32(n)' of a whole number n from lo to hi. -/
def RSmall (w : World) (c : Nat) (e : Ending) (w' : World) : Prop :=
  ∃ x y : Int, -3 ≤ x ∧ x ≤ 3 ∧ -3 ≤ y ∧ y ≤ 3 ∧ e = .returned (.complex .f32 (floatOfInt .f32 x) (floatOfInt .f32 y)) ∧ Cur w' c ∧ Chg (fun k => k = c) w w'

/-- Some number of single precision and a bool come back; at most the tape was asked. -/
def RFany (w : World) (e : Ending) (w' : World) : Prop :=
  ∃ (b : Nat) (t : Bool) (n : Nat), b < 4294967296 ∧ e = .returned (.tuple #[.float .f32 b, .bool t]) ∧ w' = w.drewN n

theorem Cur.drewN {w : World} {c : Nat} (h : Cur w c) (n : Nat) : Cur (w.drewN n) c := h
theorem Cur.alloc {w : World} {c : Nat} (h : Cur w c) (o : Obj) : Cur (w.alloc o) c := h.chg ((Chg.refl (fun _ => False) w).alloc o) fun _ _ x => x

end Go.Proofs.Ytopkehknaclhlaa
