/-
  Rep, Open, Bulk, J1, Oct1, Oct2, Rep3, Own, J2, Rep4, J3, J4: in one text.
-/
import Derived.Test.YtccphnkdnifpfaaProg
import Derived.WalkKit
import Derived.WalkLawsBesides
import Derived.WalkSpells
import Derived.Lib.Hide
import Derived.Deep.LoopGhost
import Derived.Deep.QuietTactic
import Derived.BigQuiet
import Derived.Deep.AppendSrc
import Derived.ProofKit
import Derived.OpenShut
import Derived.ShutString
import Derived.ChangeOld
import Derived.SizedLaws
import Derived.Test.YtccphnkdnifpfaaRows
import Derived.RangeFuncBox
import Derived.MapKept
import Derived.Lib.OthersKept
import Derived.RangeFuncFrom
import Derived.Deep.RegionHeld3
import Derived.Shelf.Abstract
namespace Go.Proofs.Ytccphnkdnifpfaa
set_option linter.unnecessarySimpa false
open Go.RowKit
set_option linter.unusedVariables false
set_option linter.unusedSimpArgs false

/-- What was there in w is there in w', but for the blocks of S. -/
structure Chg (S : Nat → Prop) (w w' : World) : Prop where
  os : w'.os = w.os
  tape : w'.tape = w.tape
  output : w'.output = w.output
  size : w.heap.size ≤ w'.heap.size
  block : ∀ k, k < w.heap.size → ¬ S k → w'.heap[k]? = w.heap[k]?

def No : Nat → Prop := fun _ => False
def One (g : Nat) : Nat → Prop := fun k => k = g

theorem Chg.refl (S : Nat → Prop) (w : World) : Chg S w w := ⟨rfl, rfl, rfl, Nat.le_refl _, fun _ _ _ => rfl⟩

theorem Chg.trans {S S' : Nat → Prop} {a b c : World} (h : Chg S a b) (k : Chg S' b c) (hs : ∀ i, i < a.heap.size → S' i → S i) : Chg S a c :=
  ⟨k.os.trans h.os, k.tape.trans h.tape, k.output.trans h.output, Nat.le_trans h.size k.size, fun i hi hn =>
    (k.block i (Nat.lt_of_lt_of_le hi h.size) (fun hx => hn (hs i hi hx))).trans (h.block i hi hn)⟩

theorem Chg.no {S : Nat → Prop} {a b c : World} (h : Chg S a b) (k : Chg No b c) : Chg S a c := h.trans k (fun _ _ hx => hx.elim)
theorem Chg.one {S : Nat → Prop} {a b c : World} {g : Nat} (h : Chg S a b) (k : Chg (One g) b c) (hg : a.heap.size ≤ g ∨ S g) : Chg S a c :=
  h.trans k (fun i hi hx => by have : i = g := hx; subst this; rcases hg with h | h; omega; exact h)

theorem Chg.mono {S S' : Nat → Prop} {a b : World} (h : Chg S a b) (hs : ∀ i, i < a.heap.size → S i → S' i) : Chg S' a b :=
  ⟨h.os, h.tape, h.output, h.size, fun i hi hn => h.block i hi (fun hx => hn (hs i hi hx))⟩

theorem Chg.drew {S : Nat → Prop} {a b : World} (h : Chg S a b) : Chg S a b.drew := ⟨h.os, h.tape, h.output, h.size, h.block⟩
theorem Chg.drewN {S : Nat → Prop} {a b : World} (h : Chg S a b) (n : Nat) : Chg S a (b.drewN n) := ⟨h.os, h.tape, h.output, h.size, h.block⟩
theorem Chg.alloc {S : Nat → Prop} {a b : World} (h : Chg S a b) (o : Obj) : Chg S a (b.alloc o) :=
  h.no ⟨rfl, rfl, rfl, by simp, fun k hk _ => Below.heap_alloc _ _ _ hk⟩
theorem Chg.setCell {S : Nat → Prop} {a b : World} (h : Chg S a b) {p : Addr} (hp : a.heap.size ≤ p.block ∨ S p.block) (u : Value) : Chg S a (b.setCell p u) :=
  h.one (g := p.block) ⟨rfl, rfl, rfl, by simp, fun k _ hn => Below.heap_setCell _ _ _ _ hn⟩ hp
theorem Chg.put (w : World) (g o : Nat) (u : Value) : Chg (One g) w (w.setCell ⟨g, o, none⟩ u) := (Chg.refl (One g) w).setCell (p := ⟨g, o, none⟩) (.inr (Eq.refl g)) u
theorem Chg.grown {S : Nat → Prop} {a b c : World} {row : Option Nat} (h : Chg S a b) (hg : b.grownBy c row) (hr : ∀ k, row = some k → a.heap.size ≤ k ∨ S k) : Chg S a c :=
  h.trans (S' := fun k => row = some k) ⟨hg.os, hg.tape, hg.output, hg.size, fun k hk hn => hg.block k hk (fun e => hn e.symm)⟩
    (fun i hi hx => by rcases hr i hx with h | h; omega; exact h)
theorem Chg.ofGrown {S : Nat → Prop} {w w' : World} {row : Option Nat} (hg : w.grownBy w' row) (hr : ∀ k, row = some k → S k) : Chg S w w' :=
  ⟨hg.os, hg.tape, hg.output, hg.size, fun k hk hn => hg.block k hk (fun e => hn (hr k e.symm))⟩
theorem Chg.below {w w' : World} (h : Chg No w w') : Below w.heap.size w w' := ⟨h.os, h.tape, h.output, h.size, fun k hk => h.block k hk (fun x => x)⟩
theorem Chg.ofBelow {w w' : World} (h : Below w.heap.size w w') : Chg No w w' := ⟨h.os, h.tape, h.output, h.size, fun k hk _ => h.block k hk⟩
theorem Chg.cell {S : Nat → Prop} {w w' : World} (h : Chg S w w') {p : Addr} {u : Value} (hc : w.cell? p = some u) (hs : ¬ S p.block) : w'.cell? p = some u :=
  (World.cell?_of_block (h.block p.block (World.block_lt_of_cell? w p hc) hs)).trans hc
theorem Chg.heap {S : Nat → Prop} {w w' : World} (h : Chg S w w') {g : Nat} {o : Obj} (hc : w.heap[g]? = some o) (hs : ¬ S g) : w'.heap[g]? = some o :=
  (h.block g (by rcases Nat.lt_or_ge g w.heap.size with h | h; exact h; simp [Array.getElem?_eq_none h] at hc) hs).trans hc

/-- A slice's value of n elements, whose cells are cs. -/
def Holds (w : World) (v : Value) (n : Nat) (cs : List Value) : Prop :=
  ∃ A c, v = .slice A n c ∧ n ≤ c ∧ c ≤ maxLen ∧ (0 < cs.length → ∃ b o, A = some ⟨b, o, none⟩ ∧ ∀ j u, cs[j]? = some u → w.cell? ⟨b, o + j, none⟩ = some u)

theorem Holds.nil (w : World) : Holds w (.slice none 0 0) 0 [] := ⟨none, 0, rfl, Nat.le_refl _, Nat.zero_le _, by simp⟩

theorem Holds.chg {S : Nat → Prop} {w w' : World} {v : Value} {n : Nat} {cs : List Value} (h : Holds w v n cs) (hc : Chg S w w') (hs : ∀ b, v.ownBlock = some b → ¬ S b) : Holds w' v n cs := by
  obtain ⟨A, c, rfl, hn, hm, hx⟩ := h
  refine ⟨A, c, rfl, hn, hm, fun hl => ?_⟩
  obtain ⟨b, o, rfl, hcell⟩ := hx hl
  exact ⟨b, o, rfl, fun j u hj => hc.cell (hcell j u hj) (hs b rfl)⟩
theorem Holds.no {w w' : World} {v : Value} {n : Nat} {cs : List Value} (h : Holds w v n cs) (hc : Chg No w w') : Holds w' v n cs := h.chg hc (fun _ _ hx => hx)

theorem Holds.ofOwn {w : World} {base : Nat} {e : TypeId} {size : Nat} {v : Value} {n : Nat} {xs : List Value} (h : w.ownsRow base e size v n xs) : Holds w v n xs := by
  obtain ⟨hl, h2⟩ := h
  rcases h2 with ⟨rfl, rfl⟩ | ⟨g, cap, cur, rfl, hg, hh, hn, hm, hcs, ht⟩
  · have : xs = [] := List.eq_nil_of_length_eq_zero (by simpa using hl)
    subst this; exact Holds.nil w
  · refine ⟨_, _, rfl, hn, hm, fun _ => ⟨g, 0, rfl, fun j u hj => ?_⟩⟩
    simp only [World.cell?, hh, Nat.zero_add]
    rw [← ht, List.getElem?_take] at hj
    split at hj
    · simpa using hj
    · cases hj

/-- A piece of a slice: from k on. -/
theorem Holds.drop {w : World} {A : Option Addr} {n c k : Nat} {size : Nat} {cs : List Value} (h : Holds w (.slice A n c) n cs) (hk : k ≤ n) (hs : 0 < size) (hl : cs.length = n * size) :
    Holds w (.slice (if c = k then A else A.map (·.add (k * size))) (n - k) (c - k)) (n - k) (cs.drop (k * size)) := by
  obtain ⟨A', c', he, hn, hm, hx⟩ := h
  simp only [Value.slice.injEq, true_and] at he
  obtain ⟨rfl, rfl⟩ := he
  refine ⟨_, _, rfl, by omega, by omega, fun hp => ?_⟩
  have hkn : k < n := by
    rcases Nat.lt_or_ge k n with h | h
    · exact h
    · have : k = n := by omega
      subst this; simp [hl] at hp
  have hpos : 0 < cs.length := by rw [hl]; exact Nat.mul_pos (by omega) hs
  obtain ⟨b, o, rfl, hcell⟩ := hx hpos
  rw [if_neg (by omega)]
  refine ⟨b, o + k * size, ?_, fun j u hj => ?_⟩
  · simp only [Option.map_some, Addr.add]
    split
    · rename_i h0; rw [h0]; rfl
    · rfl
  · rw [List.getElem?_drop] at hj
    have := hcell _ _ hj
    rwa [Nat.add_assoc]

/-- A piece of a slice: up to k, its capacity m. -/
theorem Holds.take {w : World} {A : Option Addr} {n c k m : Nat} {size : Nat} {cs : List Value} (h : Holds w (.slice A n c) n cs) (hk : k ≤ n) (hkm : k ≤ m) (hmc : m ≤ c) (hl : cs.length = n * size) :
    Holds w (.slice A k m) k (cs.take (k * size)) := by
  obtain ⟨A', c', he, hn, hm, hx⟩ := h
  simp only [Value.slice.injEq, true_and] at he
  obtain ⟨rfl, rfl⟩ := he
  refine ⟨_, _, rfl, by omega, by omega, fun hp => ?_⟩
  have hpos : 0 < cs.length := by
    rw [List.length_take] at hp; omega
  obtain ⟨b, o, rfl, hcell⟩ := hx hpos
  refine ⟨b, o, rfl, fun j u hj => ?_⟩
  rw [List.getElem?_take] at hj
  split at hj
  · exact hcell _ _ hj
  · cases hj

section append
variable {P : Program} (w : World)

theorem ownsRow_first {base : Nat} {e : TypeId} {size : Nat} {v : Value} {n : Nat} {xs : List Value} (h : w.ownsRow base e size v n xs) :
    ∃ A c, v = .slice A n c ∧ (Builtin.firstCells size n (.slice A n c)).run P w.drew = .ok xs.toArray w.drew := by
  have hcells := @World.ownsRow.cells w base e size v n xs h
  obtain ⟨hl, h2⟩ := h
  rcases h2 with ⟨rfl, rfl⟩ | ⟨g, cap, cur, rfl, hbg, hg, hnc, hcm, hcs, htake⟩
  · have hx : xs = [] := List.eq_nil_of_length_eq_zero (by simpa using hl)
    subst hx
    exact ⟨none, 0, rfl, run_firstCells_none w.drew size 0 0 0⟩
  · exact ⟨_, _, rfl, run_firstCells_some w.drew size n ⟨g, 0, none⟩ n cap xs hl (fun j u hj => by simpa using hcells (g := g) rfl j u hj)⟩

/-- append of whatever source onto a row of the call's own. -/
theorem run_append_own_src (base : Nat) (t tx ty e : TypeId) (i : TypeInfo) (z : Value) (size bytes : Nat) (ht : P.underlying t = some (.slice e)) (hi : P.info? e = some i) (hz : i.zero = some z)
    (hsize : i.size = size) (hby : i.bytes = bytes) (hzs : z.cells.size = size) (hsz : 0 < size)
    (v : Value) (n : Nat) (xs : List Value) (hown : w.ownsRow base e size v n xs)
    (x : Value) (m : Nat) (news : List Value) (hs : Src P size tx x m news w)
    (hbytes : (n + m) * bytes ≤ 140737488355328) (h63 : n + m ≤ maxLen) (hbase : base ≤ w.heap.size) :
    ∃ v' w', (Builtin.append_ #[t, tx] ty #[v, x]).run P w = .ok v' w' ∧ w'.ownsRow base e size v' (n + m) (xs ++ news) ∧ w.grownBy w' v.ownBlock := by
  subst hsize
  subst hby
  have hsmall : n + m ≤ 9223372036854775807 := by simp only [maxLen] at h63; omega
  have hl := hs.newsLen
  have hlen : (xs ++ news).length = (n + m) * i.size := by rw [List.length_append, hown.1, hl, Nat.add_mul]
  obtain ⟨A, c, hv, hfirst⟩ := ownsRow_first (P := P) w hown
  subst hv
  by_cases hroom : n + m ≤ c
  · rcases hown.2 with ⟨he, rfl⟩ | ⟨g, cap, cur, he, hbg, hg, hnc, hcm, hcs, htake⟩
    · simp only [Value.slice.injEq] at he
      obtain ⟨rfl, -, rfl⟩ := he
      obtain rfl : m = 0 := by omega
      have hn : news = [] := List.eq_nil_of_length_eq_zero (by simpa using hl)
      subst hn
      have hx : xs = [] := List.eq_nil_of_length_eq_zero (by simpa using hown.1)
      subst hx
      refine ⟨.slice none 0 0, w, ?_, World.ownsRow_nil w base e i.size, ⟨rfl, rfl, rfl, Nat.le_refl _, fun _ _ _ => rfl⟩⟩
      rcases hs.kind with ⟨e', hk⟩ | hk <;> simp [Builtin.append_, run_underlying ht, run_underlying hk, sizeOf, typeInfo, hi, hs.len, hs.cells]
    · simp only [Value.slice.injEq, true_and] at he
      obtain ⟨rfl, rfl⟩ := he
      have hfit : n * i.size + news.length ≤ cur.size := by rw [hl, hcs, ← Nat.add_mul]; exact Nat.mul_le_mul_right _ hroom
      have hst := run_storeCells_at P g (n * i.size) e news 0 cur w hg (by simpa using hfit) hs.one
      simp only [Nat.add_zero] at hst
      refine ⟨.slice (some ⟨g, 0, none⟩) (n + m) c, w.setRow g (cur.toList.take (n * i.size) ++ news ++ cur.toList.drop (n * i.size + news.length)).toArray, ?_, ?_, ?_⟩
      · rcases hs.kind with ⟨e', hk⟩ | hk <;> simp [Builtin.append_, run_underlying ht, run_underlying hk, sizeOf, typeInfo, hi, hs.len, hroom, hs.cells, Addr.add_lit, hst]
      · refine ⟨hlen, .inr ⟨g, c, _, rfl, hbg, setRow_heap w g cur _ e _ hg, hroom, hcm, ?_, ?_⟩⟩
        · simp only [List.size_toArray, List.length_append, List.length_take, List.length_drop, Array.length_toList]
          have hms : (n + m) * i.size ≤ c * i.size := Nat.mul_le_mul_right _ hroom
          rw [Nat.add_mul] at hms
          omega
        · rw [htake, ← hlen]
          exact List.take_left
      · exact ⟨rfl, rfl, rfl, by simp [World.setRow], fun k _ hk => setRow_other w g k _ (fun e => hk (by simp [Value.ownBlock, e]))⟩
  · refine ⟨_, _, run_append_grow_src (P := P) w t tx ty e i z ht hi hz A n c xs hfirst x m news hs (by omega) (by omega) (growslice_fits (by omega) hbytes), ?_, ?_⟩
    · have hge := grownCap_ge w (n + m) c e
      have hcm : grownCap w (n + m) c e ≤ maxLen := grownCap_le_maxLen w (n + m) c e h63
      refine ⟨hlen, .inr ⟨w.heap.size, _, _, rfl, hbase, heap_alloc_new w.drew _, hge, hcm, ?_, ?_⟩⟩
      · simp only [Array.size_append, List.size_toArray, size_zeroCells, hzs, hlen, ← Nat.add_mul]
        congr 1
        omega
      · simp only [Array.toList_append]
        rw [← hlen]
        exact List.take_left
    · exact ⟨rfl, rfl, rfl, by simp, fun k hk _ => heap_alloc_old w.drew _ hk⟩

theorem Src.ofHolds {size : Nat} {tx e' : TypeId} (hk : P.underlying tx = some (.slice e')) {x : Value} {m : Nat} {cs : List Value} (h : Holds w x m cs) (hl : cs.length = m * size) (hs : 0 < size) (h1 : ∀ u ∈ cs, u.oneCell' = true) : Src P size tx x m cs w := by
  obtain ⟨A, c, rfl, hn, hm, hx⟩ := h
  by_cases hp : 0 < cs.length
  · obtain ⟨b, o, rfl, hcell⟩ := hx hp
    exact Src.ofSlice w hk ⟨b, o, none⟩ m c cs hl (fun j u hj => by rw [Addr.add_lit]; exact hcell j u hj) h1
  · have : cs = [] := List.eq_nil_of_length_eq_zero (by omega)
    subst this
    have hm0 : m = 0 := by
      rcases Nat.eq_zero_or_pos m with h | h
      · exact h
      · have := Nat.mul_pos h hs; simp at hl; omega
    subst hm0
    cases A with
    | none => exact Src.ofNil w hk c
    | some a => exact Src.ofSlice w hk a 0 c [] (by simp) (fun j u hj => by simp at hj) (fun u hu => by cases hu)

theorem wpList_app {ops : Array Oper} {rest : List Oper} {o : Oper} {a : Act} {Q : Exit → Act → World → Prop} (hgd : o.guard = none) (s x : Operand) (t tx : TypeId)
    (ho : o.op = .call { callee := .builtin .append, args := #[s, x], argTypes := #[t, tx] })
    (base : Nat) (e : TypeId) (z : Value) (size bytes : Nat) (hinfo : (P.info? e).map (fun i => (i.zero, i.size, i.bytes)) = some (some z, size, bytes)) (ht : P.underlying t = some (.slice e))
    (hzs : z.cells.size = size) (hsz : 0 < size)
    (v xv : Value) (n m : Nat) (xs news : List Value) (hs : a.eval s = v) (hx : a.eval x = xv)
    (hown : w.ownsRow base e size v n xs) (hsrc : Src P size tx xv m news w)
    (hbytes : (n + m) * bytes ≤ 140737488355328) (h63 : n + m ≤ maxLen) (hbase : base ≤ w.heap.size)
    (h : ∀ v' w', w'.ownsRow base e size v' (n + m) (xs ++ news) → w.grownBy w' v.ownBlock → wpList P ops Q rest (a.put o.dst v') w') : wpList P ops Q (o :: rest) a w := by
  obtain ⟨i, hi, hz0, hz1, hz2⟩ := info_parts hinfo
  refine wpList_plain hgd fun _ hK => ?_
  obtain ⟨v', w', hr, h2, h3⟩ := run_append_own_src (P := P) w base t tx o.type e i z size bytes ht hi hz0 hz1 hz2 hzs hsz v n xs hown xv m news hsrc hbytes h63 hbase
  unfold Oper.wp execOp
  simp only [ho, resolve, invoke, builtin, Sem.run_bind, Sem.run_pure, Result.andThen_ok, List.map_toArray, List.map_cons, List.map_nil, hs, hx, hr]
  exact hK _ _ (h v' w' h2 h3)
end append

/-- Bytes as cells. -/
def u8s (xs : List UInt8) : List Value := xs.map fun c => .int .u8 (c.toNat : Int)
@[simp] theorem length_u8s (xs : List UInt8) : (u8s xs).length = xs.length := by simp [u8s]
theorem u8s_get (xs : List UInt8) (j : Nat) (h : j < xs.length) : (u8s xs)[j]? = some (.int .u8 ((xs[j]).toNat : Int)) := by simp [u8s, h]
theorem u8s_take (xs : List UInt8) (k : Nat) : (u8s xs).take k = u8s (xs.take k) := by simp [u8s, List.map_take]
theorem u8s_drop (xs : List UInt8) (k : Nat) : (u8s xs).drop k = u8s (xs.drop k) := by simp [u8s, List.map_drop]
theorem u8s_append (xs ys : List UInt8) : u8s (xs ++ ys) = u8s xs ++ u8s ys := by simp [u8s]
theorem u8s_snoc (xs : List UInt8) (c : UInt8) (n : Int) (h : (c.toNat : Int) = n) : u8s xs ++ [.int .u8 n] = u8s (xs ++ [c]) := by subst h; simp [u8s]
theorem u8s_one (xs : List UInt8) : ∀ u ∈ u8s xs, u.oneCell' = true := by
  intro u hu
  simp only [u8s, List.mem_map] at hu
  obtain ⟨_, _, rfl⟩ := hu
  rfl

/-- A slice of bytes. -/
def Bytes (w : World) (v : Value) (xs : List UInt8) : Prop := Holds w v xs.length (u8s xs)
theorem Bytes.chg {S : Nat → Prop} {w w' : World} {v : Value} {xs : List UInt8} (h : Bytes w v xs) (hc : Chg S w w') (hs : ∀ b, v.ownBlock = some b → ¬ S b) : Bytes w' v xs := Holds.chg h hc hs
theorem Bytes.no {w w' : World} {v : Value} {xs : List UInt8} (h : Bytes w v xs) (hc : Chg No w w') : Bytes w' v xs := Holds.no h hc
theorem Bytes.nil (w : World) : Bytes w (.slice none 0 0) [] := Holds.nil w
theorem Bytes.form {w : World} {v : Value} {xs : List UInt8} (h : Bytes w v xs) : ∃ A c, v = .slice A xs.length c ∧ xs.length ≤ c ∧ c ≤ maxLen := by
  obtain ⟨A, c, h1, h2, h3, _⟩ := h; exact ⟨A, c, h1, h2, h3⟩
theorem Bytes.addr {w : World} {A : Option Addr} {n c : Nat} {xs : List UInt8} (h : Bytes w (.slice A n c) xs) (hp : 0 < xs.length) :
    ∃ b o, A = some ⟨b, o, none⟩ ∧ ∀ j (hj : j < xs.length), w.cell? ⟨b, o + j, none⟩ = some (.int .u8 ((xs[j]).toNat : Int)) := by
  obtain ⟨A', c', he, hn, hm, hx⟩ := h
  simp only [Value.slice.injEq] at he
  obtain ⟨rfl, rfl, rfl⟩ := he
  obtain ⟨b, o, rfl, hc⟩ := hx (by simpa using hp)
  exact ⟨b, o, rfl, fun j hj => hc j _ (u8s_get xs j hj)⟩
theorem Bytes.drop {w : World} {A : Option Addr} {c k : Nat} {xs : List UInt8} (h : Bytes w (.slice A xs.length c) xs) (hk : k ≤ xs.length) :
    Bytes w (.slice (if c = k then A else A.map (·.add k)) (xs.length - k) (c - k)) (xs.drop k) := by
  have := Holds.drop (size := 1) h hk (by decide) (by simp)
  simpa [Bytes, u8s_drop] using this
theorem Bytes.take {w : World} {A : Option Addr} {c k m : Nat} {xs : List UInt8} (h : Bytes w (.slice A xs.length c) xs) (hk : k ≤ xs.length) (hkm : k ≤ m) (hmc : m ≤ c) :
    Bytes w (.slice A k m) (xs.take k) := by
  have := Holds.take (size := 1) h hk hkm hmc (by simp)
  simpa [Bytes, u8s_take, Nat.min_eq_left hk] using this

theorem Src.ofBytes {P : Program} {w : World} {tx e' : TypeId} (hk : P.underlying tx = some (.slice e')) {v : Value} {n : Nat} {xs : List UInt8} (h : Bytes w v xs) (hl : xs.length = n) : Src P 1 tx v n (u8s xs) w :=
  Src.ofHolds w hk (by subst hl; exact h) (by simp [hl]) (by decide) (u8s_one xs)
theorem Src.ofText {P : Program} {w : World} {tx : TypeId} (hk : P.underlying tx = some .string) (s : ByteArray) : Src P 1 tx (.string s) s.size (u8s s.data.toList) w := Src.ofString w hk s
theorem infoU8 : (Try.prog.info? 5).map (fun i => (i.zero, i.size, i.bytes)) = some (some (.int .u8 0), 1, 1) := by kernel_rfl
/-- A slice of bytes of the call's own, from block base on. -/
def OwnB (w : World) (base : Nat) (v : Value) (xs : List UInt8) : Prop := w.ownsRow base 5 1 v xs.length (u8s xs)
theorem OwnB.of {w : World} {base n : Nat} {v : Value} {xs : List UInt8} {cs : List Value} (h : w.ownsRow base 5 1 v n cs) (hc : cs = u8s xs) : OwnB w base v xs := by
  subst hc
  have hn : n = xs.length := by have := h.1; simpa using this.symm
  subst hn
  exact h
theorem Bytes.ofOwn {w : World} {base : Nat} {e : TypeId} {v : Value} {n : Nat} {xs : List UInt8} (h : w.ownsRow base e 1 v n (u8s xs)) : Bytes w v xs := by
  have hn : n = xs.length := by have := h.1; simpa using this.symm
  subst hn
  exact Holds.ofOwn h
theorem OwnB.bytes {w : World} {base : Nat} {v : Value} {xs : List UInt8} (h : OwnB w base v xs) : Bytes w v xs := Bytes.ofOwn h
theorem OwnB.mono {w : World} {base base' : Nat} {v : Value} {xs : List UInt8} (h : OwnB w base v xs) (hb : base' ≤ base) : OwnB w base' v xs := by
  obtain ⟨h1, h2⟩ := h
  refine ⟨h1, h2.imp id ?_⟩
  rintro ⟨g, cap, cur, hv, hg, r⟩
  exact ⟨g, cap, cur, hv, Nat.le_trans hb hg, r⟩
theorem OwnB.block {w : World} {base : Nat} {v : Value} {xs : List UInt8} (h : OwnB w base v xs) : ∀ k, v.ownBlock = some k → base ≤ k ∧ k < w.heap.size := World.ownsRow.lt h
theorem OwnB.alloc {w : World} {base : Nat} {v : Value} {xs : List UInt8} (h : OwnB w base v xs) (o : Obj) : OwnB (w.alloc o) base v xs := World.ownsRow.alloc h o
theorem OwnB.chg {S : Nat → Prop} {w w' : World} {base : Nat} {v : Value} {xs : List UInt8} (h : OwnB w base v xs) (hc : Chg S w w') (hs : ∀ b, v.ownBlock = some b → ¬ S b) : OwnB w' base v xs := by
  obtain ⟨h1, h2⟩ := h
  refine ⟨h1, h2.imp id ?_⟩
  rintro ⟨g, cap, cur, rfl, hg, hh, r⟩
  exact ⟨g, cap, cur, rfl, hg, hc.heap hh (hs g rfl), r⟩
/-- A string of bytes. -/
def mkS (l : List UInt8) : ByteArray := ⟨l.toArray⟩
@[simp] theorem mkS_list (l : List UInt8) : (mkS l).data.toList = l := by simp [mkS]
theorem mkS_self (s : ByteArray) : mkS s.data.toList = s := by unfold mkS; rw [Array.toArray_toList]
theorem mkS_size (l : List UInt8) : (mkS l).size = l.length := by simp [mkS, ByteArray.size]
theorem mkS_inj {a b : List UInt8} (h : mkS a = mkS b) : a = b := by have := congrArg (fun s => s.data.toList) h; rwa [mkS_list, mkS_list] at this
theorem mkS_nil : mkS [] = ⟨#[]⟩ := rfl
theorem size_list (s : ByteArray) : s.data.toList.length = s.size := by rw [Array.length_toList]; rfl

theorem Bytes.text {P : Program} {w : World} {A : Option Addr} {n c : Nat} {xs : List UInt8} (h : Bytes w (.slice A n c) xs) {src dst e : TypeId} (hs : P.underlying src = some (.slice e)) (he : P.underlying e = some (.int .u8)) (hd : P.underlying dst = some .string) :
    (convert src dst (.slice A n c)).run P w = .ok (.string (mkS xs)) w := by
  have hl : xs.length = n := by
    obtain ⟨A', c', he, _⟩ := h
    simp only [Value.slice.injEq] at he
    exact he.2.1.symm
  subst hl
  cases A with
  | some a =>
    refine run_convert_bytes_back w src dst e a c xs hs he hd (fun j hj => ?_)
    obtain ⟨b, o, ha, hc⟩ := h.addr (by omega)
    cases ha
    rw [Addr.add_lit]
    exact hc j hj
  | none =>
    have hn : xs = [] := by
      rcases Nat.eq_zero_or_pos xs.length with h0 | h0
      · exact List.eq_nil_of_length_eq_zero h0
      · obtain ⟨b, o, he, _⟩ := h.addr h0
        cases he
    subst hn
    rw [run_convert_bytes_nil w src e hs he _ _ dst hd]
    rfl
theorem Src.one {P : Program} {w : World} {tx e' t : TypeId} (hk : P.underlying tx = some (.slice e')) (u : Value) (h1 : u.oneCell' = true) :
    Src P 1 tx (.slice (some ⟨w.heap.size, 0, none⟩) 1 1) 1 [u] (w.alloc (.cells #[u] t)) :=
  Src.ofSlice _ hk _ _ _ [u] (by simp) (fun j v hj => by
    rw [Addr.add_lit, Nat.zero_add, World.cell?_alloc_new]
    cases j with
    | zero => simpa using hj
    | succ j => simp at hj) (fun v hv => by simp at hv; subst hv; exact h1)
theorem foldl_take {α β : Type} (f : β → α → β) (a : β) (xs : List α) (k : Nat) (hk : k < xs.length) : (xs.take (k + 1)).foldl f a = f ((xs.take k).foldl f a) xs[k] := by
  rw [List.take_succ_eq_append_getElem hk, List.foldl_append]; rfl
/-- A row of n bytes of which the last k are told by f. -/
def FillArr (t : TypeId) (w : World) (g n : Nat) (f : Nat → UInt8) (k : Nat) : Prop :=
  ∃ arr : Array Value, w.heap[g]? = some (.cells arr t (0, 0)) ∧ arr.size = n ∧ ∀ j, j < n → n - k ≤ j → arr[j]? = some (.int .u8 ((f j).toNat : Int))
theorem FillArr.start {t : TypeId} {w : World} {n : Nat} {f : Nat → UInt8} (arr : Array Value) (h : arr.size = n) : FillArr t (w.alloc (.cells arr t)) w.heap.size n f 0 :=
  ⟨_, heap_alloc_new w _, h, fun j h1 h2 => by omega⟩
theorem FillArr.cell {t : TypeId} {w : World} {g n k : Nat} {f : Nat → UInt8} (h : FillArr t w g n f k) (i : Nat) (hi : i < n) : ∃ u, w.cell? ⟨g, i, none⟩ = some u := by
  obtain ⟨arr, h1, h2, _⟩ := h
  have : i < arr.size := by omega
  exact ⟨arr[i], by simp [World.cell?, h1, this]⟩
theorem FillArr.frozen {t : TypeId} {w : World} {g n k : Nat} {f : Nat → UInt8} (h : FillArr t w g n f k) (i : Nat) : w.frozen? ⟨g, i, none⟩ = false := by
  obtain ⟨arr, h1, h2, _⟩ := h
  simp [World.frozen?, h1]
theorem FillArr.store {t : TypeId} {w : World} {g n k : Nat} {f : Nat → UInt8} (h : FillArr t w g n f k) (hk : k < n) (i : Nat) (hi : i = n - 1 - k) (v : Int) (hv : v = ((f i).toNat : Int)) : FillArr t (w.setCell ⟨g, i, none⟩ (.int .u8 v)) g n f (k + 1) := by
  subst hi
  obtain ⟨arr, h1, h2, h3⟩ := h
  refine ⟨arr.setIfInBounds (n - 1 - k) (.int .u8 v), by unfold World.setCell; simp [Array.getElem?_modify, h1], by simpa using h2, fun j hj hj2 => ?_⟩
  rw [Array.getElem?_setIfInBounds]
  by_cases he : n - 1 - k = j
  · subst he
    rw [if_pos rfl, if_pos (by omega), hv]
  · rw [if_neg he]; exact h3 j hj (by omega)
theorem FillArr.bytes {t : TypeId} {w : World} {g n : Nat} {f : Nat → UInt8} (h : FillArr t w g n f n) (hn : n ≤ maxLen) : Bytes w (.slice (some ⟨g, 0, none⟩) n n) ((List.range n).map f) := by
  obtain ⟨arr, h1, h2, h3⟩ := h
  have hl : ((List.range n).map f).length = n := by simp
  refine ⟨_, _, by rw [hl], by rw [hl]; exact Nat.le_refl _, hn, fun _ => ⟨g, 0, rfl, fun j u hj => ?_⟩⟩
  have hjn : j < n := by
    have := (List.getElem?_eq_some_iff.1 hj).1
    simp only [length_u8s, hl] at this; exact this
  rw [u8s_get _ _ (by rw [hl]; exact hjn)] at hj
  have := h3 j hjn (by omega)
  simp only [World.cell?, h1, Nat.zero_add]
  simp only [Option.isSome_none, Bool.false_eq_true, if_false]
  rw [this, ← hj]
  simp
theorem FillArr.own {w : World} {g n base : Nat} {f : Nat → UInt8} (h : FillArr 5 w g n f n) (hn : n ≤ maxLen) (hb : base ≤ g) : OwnB w base (.slice (some ⟨g, 0, none⟩) n n) ((List.range n).map f) := by
  obtain ⟨arr, h1, h2, h3⟩ := h
  have hl : ((List.range n).map f).length = n := by simp
  refine ⟨by simp, .inr ⟨g, n, arr, by rw [hl], hb, h1, by rw [hl]; exact Nat.le_refl _, hn, by simpa using h2, ?_⟩⟩
  rw [hl, Nat.mul_one]
  apply List.ext_getElem?
  intro j
  rw [List.getElem?_take]
  by_cases hj : j < n
  · rw [if_pos hj, u8s_get _ _ (by rw [hl]; exact hj)]
    have := h3 j hj (by omega)
    simp only [Array.getElem?_toList]
    rw [this]
    simp
  · rw [if_neg hj, List.getElem?_eq_none (by rw [length_u8s, hl]; omega)]
theorem FillArr.chg {S : Nat → Prop} {t : TypeId} {w w' : World} {g n k : Nat} {f : Nat → UInt8} (h : FillArr t w g n f k) (hc : Chg S w w') (hs : ¬ S g) : FillArr t w' g n f k := by
  obtain ⟨arr, h1, h2, h3⟩ := h
  exact ⟨arr, hc.heap h1 hs, h2, h3⟩
theorem OwnB.open {w : World} {base : Nat} {v : Value} {xs : List UInt8} (h : OwnB w base v xs) (hp : 0 < xs.length) :
    ∃ g cap, v = .slice (some ⟨g, 0, none⟩) xs.length cap ∧ base ≤ g ∧ g < w.heap.size ∧ xs.length ≤ cap ∧ cap ≤ maxLen ∧ (∀ i (hi : i < xs.length), w.cell? ⟨g, i, none⟩ = some (.int .u8 ((xs[i]).toNat : Int))) ∧ ∀ i, w.frozen? ⟨g, i, none⟩ = false := by
  have hb := h.bytes
  obtain ⟨h1, h2⟩ := h
  rcases h2 with ⟨rfl, h0⟩ | ⟨g, cap, cur, rfl, hg, hh, hn, hm, hcs, ht⟩
  · omega
  · refine ⟨g, cap, rfl, hg, ?_, hn, hm, fun i hi => ?_, fun i => by simp [World.frozen?, hh]⟩
    · rcases Nat.lt_or_ge g w.heap.size with h' | h'
      · exact h'
      · simp [Array.getElem?_eq_none h'] at hh
    · obtain ⟨b, o, he, hc⟩ := hb.addr hp
      cases he
      have := hc i hi
      simpa using this
theorem OwnB.set {w : World} {base : Nat} {xs : List UInt8} {g cap : Nat} (h : OwnB w base (.slice (some ⟨g, 0, none⟩) xs.length cap) xs) (i : Nat) (hi : i < xs.length) (c : UInt8) (n : Int) (hn : n = (c.toNat : Int)) :
    OwnB (w.setCell ⟨g, i, none⟩ (.int .u8 n)) base (.slice (some ⟨g, 0, none⟩) xs.length cap) (xs.set i c) := by
  subst hn
  obtain ⟨h1, h2⟩ := h
  rcases h2 with ⟨he, h0⟩ | ⟨g', cap', cur, he, hg, hh, hnn, hm, hcs, ht⟩
  · omega
  · simp only [Value.slice.injEq, Option.some.injEq, Addr.mk.injEq, and_true, true_and] at he
    obtain ⟨rfl, rfl⟩ := he
    refine ⟨by simp, .inr ⟨g, cap, cur.setIfInBounds i (.int .u8 (c.toNat : Int)), by rw [List.length_set], hg, ?_, by rw [List.length_set]; exact hnn, hm, by simpa using hcs, ?_⟩⟩
    · unfold World.setCell
      simp [Array.getElem?_modify, hh]
    · rw [List.length_set, Array.toList_setIfInBounds, List.take_set, ht]
      simp [u8s, List.map_set]
end Go.Proofs.Ytccphnkdnifpfaa

namespace Go.Proofs.Ytccphnkdnifpfaa
set_option linter.unnecessarySimpa false
open Go.ChangeShapes Go.WideShapes Go.ChangeAt Go.RowKit
open Go.ChangeMaps (open_string shut_string)
set_option linter.unusedVariables false
set_option linter.unusedSimpArgs false

theorem own : ownKnob Try.prog.godebug = none := by kernel_rfl
theorem laidOut : laidOutB Try.prog = true := by kernel_rfl

theorem open_bytes {H : Type} {enc : TypeId × Value → H} {P : Program} {W : World} {t e : TypeId} {v : Value} {d : DataW H} {p : List MemPlace} {r : Reach} {b0 : Nat}
    (ht : P.underlying t = some (.slice e)) (he : P.underlying e = some (.int .u8)) (hc : P.cellsOf e = 1) (hval : Value.okWide P W r b0 t v)
    (h : DataW.Trod enc P W 0 (fun _ => true) true t v d p) :
    ∃ A n c xs, v = .slice A n c ∧ Bytes W (.slice A n c) xs ∧ xs.length = n ∧ (n = 0 ∨ ∃ elems spare, d = .slice elems spare ∧ elems.length = n) := by
  obtain ⟨a0, len0, cap0, rfl⟩ := okWide_slice ht hval
  obtain ⟨fuel, hf⟩ := h
  rcases open_ints ht he hc hf with ⟨hcs, _⟩ | ⟨x, l, c, zs, hcs, _, hl, hm, hz, hx, hcell, hwz⟩
  · simp [Value.cells] at hcs
    obtain ⟨rfl, rfl, rfl⟩ := hcs
    exact ⟨_, _, _, [], rfl, Bytes.nil W, rfl, .inl rfl⟩
  · simp [Value.cells] at hcs
    obtain ⟨rfl, rfl, rfl⟩ := hcs
    simp only [if_true] at hz
    have hzl : (zs.take len0).length = len0 := by rw [List.length_take]; omega
    refine ⟨_, _, _, (zs.take len0).map (fun z => UInt8.ofNat z.toNat), rfl, ?_, by simpa using hzl, .inr ⟨_, _, (Prod.mk.inj hx).1, by rw [lits, List.length_map]; exact hzl⟩⟩
    refine ⟨_, _, by rw [List.length_map, hzl], by rw [List.length_map, hzl]; exact hl, hm, fun hp => ?_⟩
    have hpos : 0 < zs.length := by
      simp only [length_u8s, List.length_map, List.length_take] at hp
      omega
    obtain ⟨b, off, spot⟩ := x
    have hc0 := hcell 0 hpos
    have hspot : spot = none := by simpa [Addr.add] using World.cell?_spot hc0
    subst hspot
    refine ⟨b, off, rfl, fun j u hj => ?_⟩
    have hjl : j < len0 := by
      have := (List.getElem?_eq_some_iff.1 hj).1
      simp only [length_u8s, List.length_map, hzl] at this
      exact this
    have hcj := hcell j (by omega)
    rw [Addr.add_lit] at hcj
    rw [hcj]
    have hzj : zs.getD j 0 ∈ zs := by
      simp only [List.getD, List.getElem?_eq_getElem (show j < zs.length by omega), Option.getD_some]
      exact List.getElem_mem _
    have hw := hwz _ hzj
    have hb : 0 ≤ zs.getD j 0 ∧ zs.getD j 0 ≤ 255 := by simpa [Lit.wf, IntKind.min, IntKind.max, IntKind.signed, IntKind.bits] using hw
    rw [u8s_get _ _ (by rw [List.length_map, hzl]; exact hjl)] at hj
    simp only [List.getElem_map, List.getElem_take] at hj
    rw [← hj]
    have hg : zs[j]'(by omega) = zs.getD j 0 := by simp [List.getD, List.getElem?_eq_getElem (show j < zs.length by omega)]
    rw [hg]
    generalize zs.getD j 0 = z at hb
    congr 2
    rw [UInt8.toNat_ofNat']
    omega

theorem bytes_sized {H : Type} {P : Program} {ts : List TypeId} {ds : List (DataW H)} (h : (DataW.weightsEach P ts ds).all (· ≤ reachBytes) = true) {j n : Nat} {t e : TypeId} {d : DataW H}
    (ht : ts[j]? = some t) (hd : ds[j]? = some d) (hu : P.underlying t = some (.slice e)) (hb : P.bytesOf e = 1) (hn : n = 0 ∨ ∃ elems spare, d = .slice elems spare ∧ elems.length = n) : n ≤ 140737488351232 := by
  rcases hn with rfl | ⟨elems, spare, rfl, rfl⟩
  · omega
  · have := sized_slice h ht hd hu
    rw [hb] at this
    simp only [reachBytes] at this
    omega
theorem text_sized {H : Type} {P : Program} {ts : List TypeId} {ds : List (DataW H)} (h : (DataW.weightsEach P ts ds).all (· ≤ reachBytes) = true) {j : Nat} {t : TypeId} {s : ByteArray}
    (ht : ts[j]? = some t) (hd : ds[j]? = some (.lit (.string s.data.toList))) : s.size ≤ 140737488351232 := by
  have := sized_string h ht hd
  rw [size_list] at this
  simpa [reachBytes] using this
end Go.Proofs.Ytccphnkdnifpfaa

namespace Go.Proofs.Ytccphnkdnifpfaa.bulks
set_option linter.unnecessarySimpa false

theorem bound {H : Type} {l : List (DataW H)} (hk : Rows.uptoSmall H l = true) : Rows.uptoBulkAll l ≤ 1048576 := by
  unfold Rows.uptoSmall at hk
  exact of_decide_eq_true hk
theorem string_eq {H : Type} (l : List UInt8) : Rows.uptoBulk (DataW.lit (H := H) (.string l)) = l.length + 1 := by unfold Rows.uptoBulk; rfl
theorem pos {H : Type} : ∀ d : DataW H, 0 < Rows.uptoBulk d
  | .lit l => by cases l <;> simp [Rows.uptoBulk]
  | .nil => by simp [Rows.uptoBulk]
  | .ptr _ => by simp [Rows.uptoBulk]
  | .slice _ _ => by simp [Rows.uptoBulk]
  | .agg _ => by simp [Rows.uptoBulk]
  | .iface _ _ => by simp [Rows.uptoBulk]
  | .map _ => by simp [Rows.uptoBulk]
  | .held _ => by simp [Rows.uptoBulk]
theorem all_ge {H : Type} : ∀ l : List (DataW H), l.length ≤ Rows.uptoBulkAll l
  | [] => by simp [Rows.uptoBulkAll]
  | d :: r => by
    have h1 := pos d
    have h2 := all_ge r
    simp only [Rows.uptoBulkAll, List.length_cons]
    omega
theorem all_mem {H : Type} {d : DataW H} : ∀ {l : List (DataW H)}, d ∈ l → Rows.uptoBulk d ≤ Rows.uptoBulkAll l
  | x :: r, h => by
    simp only [Rows.uptoBulkAll]
    rcases List.mem_cons.1 h with rfl | h
    · omega
    · have := all_mem h
      omega
theorem slice_eq {H : Type} (a b : List (DataW H)) : Rows.uptoBulk (.slice a b) = Rows.uptoBulkAll a + Rows.uptoBulkAll b + 1 := by simp [Rows.uptoBulk]
theorem slice_le {H : Type} (a b : List (DataW H)) : a.length + b.length + 1 ≤ Rows.uptoBulk (.slice a b) := by
  have h1 := all_ge a
  have h2 := all_ge b
  rw [slice_eq]
  omega
end Go.Proofs.Ytccphnkdnifpfaa.bulks

namespace Go.Proofs.Ytccphnkdnifpfaa
set_option linter.unnecessarySimpa false
open Go.RowKit Go.MapKept
set_option linter.unusedVariables false
set_option linter.unusedSimpArgs false
set_option maxRecDepth 100000

/-- A map that has one file, or none. -/
def mapObj : Option (ByteArray × Value) → Obj
  | none => .map #[] 0
  | some (k, v) => .map #[{ key := .string k, val := v, born := 0 }] 1

theorem zeroBytes (w : World) : Sem.run Try.prog (zeroValue 30) w = .ok (.slice none 0 0) w := by
  first | rfl | (simp [go_sem]; done) | exact Try.zeroValue30 w

theorem ck (w : World) (k : ByteArray) (em : Bool) : Sem.run Try.prog (Instr.checkKey em 10000 9 (.string k)) w = .ok () w := run_checkKey (n := 9999) Try.underlying9 (by simp [IsKey]) em
theorem fk_none (w : World) (k : ByteArray) : Sem.run Try.prog (Instr.findKey 9 (.string k) []) w = .ok none w := run_findKey Try.underlying9 rfl
theorem fk_same (w : World) (k : ByteArray) (v : Value) : Sem.run Try.prog (Instr.findKey 9 (.string k) [{ key := .string k, val := v, born := 0 }]) w = .ok (some (0, v)) w := run_findKey Try.underlying9 (by
  have e : (k == k) = true := by first | exact beq_self_eq_true k | exact beq_self_eq_true k.data | (show (k.data == k.data) = true; simp) | (rw [RowKit.beq_bytes]; simp) | exact decide_eq_true rfl
  simp [Instr.findNow, Instr.sameNow, e])
theorem kts (w : World) (k : ByteArray) : Sem.run Try.prog (Instr.keyThatStays (.string k) (.string k)) w = .ok (.string k) w := run_keyThatStays (d := .string) (by simp [IsKey])

theorem look_none (w : World) (m : Nat) (k : ByteArray) (h : w.heap[m]? = some (mapObj none)) :
    Sem.run Try.prog (Instr.lookup 86 (.map (some m)) (.string k) true) w = .ok (.tuple #[.slice none 0 0, .bool false]) w := by
  have hb := Go.MapKept.run_getObj_map (P := Try.prog) (show w.heap[m]? = some (.map #[] 0) from h)
  simp [Instr.lookup, run_underlying Try.underlying86, hb, ck, fk_none, zeroBytes, Sem.run_bind, Sem.run_pure, Result.andThen]
theorem look_none1 (w : World) (m : Nat) (k : ByteArray) (h : w.heap[m]? = some (mapObj none)) :
    Sem.run Try.prog (Instr.lookup 86 (.map (some m)) (.string k) false) w = .ok (.slice none 0 0) w := by
  have hb := Go.MapKept.run_getObj_map (P := Try.prog) (show w.heap[m]? = some (.map #[] 0) from h)
  simp [Instr.lookup, run_underlying Try.underlying86, hb, ck, fk_none, zeroBytes, Sem.run_bind, Sem.run_pure, Result.andThen]
theorem look_same (w : World) (m : Nat) (k : ByteArray) (v : Value) (h : w.heap[m]? = some (mapObj (some (k, v)))) :
    Sem.run Try.prog (Instr.lookup 86 (.map (some m)) (.string k) true) w = .ok (.tuple #[v, .bool true]) w := by
  have hb := Go.MapKept.run_getObj_map (P := Try.prog) (show w.heap[m]? = some (.map #[{ key := .string k, val := v, born := 0 }] 1) from h)
  simp [Instr.lookup, run_underlying Try.underlying86, hb, ck, fk_same, Sem.run_bind, Sem.run_pure, Result.andThen]
theorem look_same1 (w : World) (m : Nat) (k : ByteArray) (v : Value) (h : w.heap[m]? = some (mapObj (some (k, v)))) :
    Sem.run Try.prog (Instr.lookup 86 (.map (some m)) (.string k) false) w = .ok v w := by
  have hb := Go.MapKept.run_getObj_map (P := Try.prog) (show w.heap[m]? = some (.map #[{ key := .string k, val := v, born := 0 }] 1) from h)
  simp [Instr.lookup, run_underlying Try.underlying86, hb, ck, fk_same, Sem.run_bind, Sem.run_pure, Result.andThen]
theorem update_none (w : World) (m : Nat) (k : ByteArray) (v : Value) (h : w.heap[m]? = some (mapObj none)) :
    Sem.run Try.prog (Instr.mapUpdate 86 (.map (some m)) (.string k) v) w = .ok () (w.putObj m (mapObj (some (k, v)))) := by
  have hb := Go.MapKept.run_getObj_map (P := Try.prog) (show w.heap[m]? = some (.map #[] 0) from h)
  have hs := fun o => Go.MapKept.run_setObj_map (P := Try.prog) o (show w.heap[m]? = some (.map #[] 0) from h)
  unfold mapObj
  simp [Instr.mapUpdate, run_underlying Try.underlying86, hb, hs, World.putObj, ck, fk_none, Sem.run_bind, Sem.run_pure, Result.andThen]
theorem update_same (w : World) (m : Nat) (k : ByteArray) (v v' : Value) (h : w.heap[m]? = some (mapObj (some (k, v)))) :
    Sem.run Try.prog (Instr.mapUpdate 86 (.map (some m)) (.string k) v') w = .ok () (w.putObj m (mapObj (some (k, v')))) := by
  have hb := Go.MapKept.run_getObj_map (P := Try.prog) (show w.heap[m]? = some (.map #[{ key := .string k, val := v, born := 0 }] 1) from h)
  have hs := fun o => Go.MapKept.run_setObj_map (P := Try.prog) o (show w.heap[m]? = some (.map #[{ key := .string k, val := v, born := 0 }] 1) from h)
  unfold mapObj
  simp [Instr.mapUpdate, run_underlying Try.underlying86, hb, hs, World.putObj, ck, fk_same, kts, Sem.run_bind, Sem.run_pure, Result.andThen]
end Go.Proofs.Ytccphnkdnifpfaa

namespace Go.Proofs.Ytccphnkdnifpfaa
set_option linter.unnecessarySimpa false
open Go.RowKit
set_option linter.unusedVariables false
set_option linter.unusedSimpArgs false

/-- A Reader's three cells in block g. -/
def RCells (w : World) (g : Nat) (v : Value) (err : Int) : Prop :=
  w.heap[g]? = some (.cells #[.bool true, v, .int .i64 err] 141 (0, 0))

section
variable {w : World} {g : Nat} {v : Value} {err : Int}
theorem RCells.c0 (h : RCells w g v err) : w.cell? ⟨g, 0, none⟩ = some (.bool true) := by simp [World.cell?, show w.heap[g]? = _ from h]
theorem RCells.c1 (h : RCells w g v err) : w.cell? ⟨g, 1, none⟩ = some v := by simp [World.cell?, show w.heap[g]? = _ from h]
theorem RCells.c2 (h : RCells w g v err) : w.cell? ⟨g, 2, none⟩ = some (.int .i64 err) := by simp [World.cell?, show w.heap[g]? = _ from h]
theorem RCells.fr (h : RCells w g v err) (j : Nat) : w.frozen? ⟨g, j, none⟩ = false := by simp [World.frozen?, show w.heap[g]? = _ from h]
theorem RCells.lt (h : RCells w g v err) : g < w.heap.size := by
  rcases Nat.lt_or_ge g w.heap.size with h' | h'
  · exact h'
  · have : w.heap[g]? = _ := h
    simp [Array.getElem?_eq_none h'] at this
theorem RCells.set1 (h : RCells w g v err) (u : Value) : RCells (w.setCell ⟨g, 1, none⟩ u) g u err := by
  have h' : w.heap[g]? = _ := h
  unfold RCells World.setCell
  simp [Array.getElem?_modify, h']
theorem RCells.set2 (h : RCells w g v err) (e : Int) : RCells (w.setCell ⟨g, 2, none⟩ (.int .i64 e)) g v e := by
  have h' : w.heap[g]? = _ := h
  unfold RCells World.setCell
  simp [Array.getElem?_modify, h']
end

set_option maxHeartbeats 400000 in
theorem ready_calls (w : World) (g : Nat) (v : Value) (err : Int) (h : RCells w g v err) :
    Calls Try.prog 81 #[.pointer (some ⟨g, 0, none⟩)] w fun e w' => e = .returned (.bool (err == 0)) ∧ w = w' := by
  have h0 := h.c0
  have h2 := h.c2
  go_enter Try.func81, Try.ntmps81
  go_wp2
  go_ret
  exact ⟨rfl, rfl⟩

set_option maxHeartbeats 400000 in
theorem refuse_calls (w : World) (g : Nat) (v : Value) (err : Int) (n : Int) (h : RCells w g v err) :
    Calls Try.prog 82 #[.pointer (some ⟨g, 0, none⟩), .int .i64 n] w fun e w' => e = .returned (.tuple #[]) ∧ w' = w.setCell ⟨g, 2, none⟩ (.int .i64 n) := by
  have h0 := h.c0
  have h2 := h.c2
  have hf := h.fr 2
  go_enter Try.func82, Try.ntmps82
  go_wp2
  go_end0
  exact ⟨rfl, rfl⟩

set_option maxHeartbeats 400000 in
theorem take_calls (w : World) (g : Nat) (A : Option Addr) (n c : Nat) (err : Int) (k : Int) (m : Nat) (hk : k = (m : Int)) (hm : m ≤ n) (hn : n ≤ c) (hc : c ≤ maxLen) (h : RCells w g (.slice A n c) err) :
    Calls Try.prog 84 #[.pointer (some ⟨g, 0, none⟩), .int .i64 k] w fun e w' => e = .returned (.slice A m m) ∧
      w' = w.setCell ⟨g, 1, none⟩ (.slice (if c = m then A else A.map (·.add m)) (n - m) (c - m)) := by
  subst hk
  unfold maxLen at hc
  have h1 := h.c1
  have hf := h.fr 1
  go_enter Try.func84, Try.ntmps84
  go_wp2
  all_goals go_ret
  all_goals exact ⟨rfl, rfl⟩
end Go.Proofs.Ytccphnkdnifpfaa

namespace Go.Proofs.Ytccphnkdnifpfaa
set_option linter.unnecessarySimpa false
open Go.RowKit
set_option linter.unusedVariables false
set_option linter.unusedSimpArgs false
set_option maxHeartbeats 400000 in
theorem clone_some (w : World) (A : Addr) (n c : Nat) (xs : List UInt8) (h : Bytes w (.slice (some A) n c) xs) (hl : xs.length = n) (hx : n ≤ 140737488355328) :
    Calls Try.prog 80 #[.slice (some A) n c] w fun e w' => ∃ v, e = .returned v ∧ OwnB w' w.heap.size v xs ∧ Chg No w w' := by
  have hnil := Lib.run_eql_slice_nil (P := Try.prog)
  have H := Lib.hid h
  have HL := Lib.hid hl
  clear h hl
  go_enter Try.func80, Try.ntmps80
  go_wp2_with (at_builtin; (refine wpList_app _ rfl (.tmp 5) (.tmp 6) 30 30 rfl w.heap.size 5 (.int .u8 0) 1 1 infoU8 Try.underlying30 rfl (by decide) (.slice (some ⟨w.heap.size, 0, none⟩) 0 0) (.slice (some A) n c) 0 n [] (u8s xs) rfl rfl ?own ?src ?b1 ?b2 ?b3 ?_; (case own => exact World.ownsRow_made w #[] 0 (Nat.le_refl _) (Nat.zero_le _) rfl); (case src => exact Src.ofBytes Try.underlying30 (H.out.no ((Chg.refl _ _).alloc _)) HL.out); (case b1 => omega); (case b2 => unfold maxLen; omega); (case b3 => simp); intro v' w' hown hg))
  go_ret
  exact ⟨_, rfl, .of hown (by simp), ((Chg.refl _ _).alloc _).grown hg (by intro k hk; simp [Value.ownBlock] at hk; omega)⟩

set_option maxHeartbeats 400000 in
theorem clone_none (w : World) (n c : Nat) :
    Calls Try.prog 80 #[.slice none n c] w fun e w' => e = .returned (.slice none 0 0) ∧ w = w' := by
  have hnil := Lib.run_eql_slice_nil (P := Try.prog)
  go_enter Try.func80, Try.ntmps80
  go_wp2
  go_ret
  exact ⟨rfl, rfl⟩

theorem clone_any (w : World) (A : Option Addr) (n c : Nat) (xs : List UInt8) (h : Bytes w (.slice A n c) xs) (hx : n ≤ 140737488355328) :
    Calls Try.prog 80 #[.slice A n c] w fun e w' => ∃ v, e = .returned v ∧ OwnB w' w.heap.size v xs ∧ Chg No w w' := by
  have hl : xs.length = n := by
    obtain ⟨A', c', he, _⟩ := h
    simp only [Value.slice.injEq] at he
    exact he.2.1.symm
  cases A with
  | some A => exact clone_some w A n c xs h hl hx
  | none =>
    have hn : xs = [] := by
      rcases Nat.eq_zero_or_pos xs.length with h0 | h0
      · exact List.eq_nil_of_length_eq_zero h0
      · obtain ⟨b, o, he, _⟩ := h.addr h0
        cases he
    subst hn
    refine (clone_none w n c).mono ?_
    rintro e w' ⟨rfl, rfl⟩
    exact ⟨_, rfl, World.ownsRow_nil _ _ _ _, Chg.refl _ _⟩

set_option maxHeartbeats 400000 in
theorem read_calls (w : World) (A : Option Addr) (n c : Nat) (xs : List UInt8) (h : Bytes w (.slice A n c) xs) (hx : n ≤ 140737488355328) :
    Calls Try.prog 49 #[.slice A n c] w fun e w' => ∃ w1 v, e = .returned (.pointer (some ⟨w1.heap.size, 0, none⟩)) ∧ w' = w1.alloc (.cells #[.bool true, v, .int .i64 0] 141) ∧ OwnB w1 w.heap.size v xs ∧ Chg No w w1 := by
  have H := Lib.hid h
  clear h
  go_enter Try.func49, Try.ntmps49
  go_wp2_with fail
  refine (clone_any _ _ _ _ xs H.out hx).mono ?_
  rintro e w1 ⟨v, rfl, hown, hc⟩
  obtain ⟨A', c', rfl, -, -⟩ := hown.bytes.form
  go_wp2
  go_ret
  exact ⟨_, _, rfl, rfl, hown, hc⟩
end Go.Proofs.Ytccphnkdnifpfaa

namespace Go.Proofs.Ytccphnkdnifpfaa
set_option linter.unnecessarySimpa false
open Go.RowKit
set_option linter.unusedVariables false
set_option linter.unusedSimpArgs false

section
variable {P : Program} {w : World}
theorem wp_app {o : Oper} {a : Act} {K : Act → World → Prop} {Q : Exit → Act → World → Prop} (s x : Operand) (t tx : TypeId)
    (ho : o.op = .call { callee := .builtin .append, args := #[s, x], argTypes := #[t, tx] })
    (base : Nat) (e : TypeId) (z : Value) (size bytes : Nat) (hinfo : (P.info? e).map (fun i => (i.zero, i.size, i.bytes)) = some (some z, size, bytes)) (ht : P.underlying t = some (.slice e))
    (hzs : z.cells.size = size) (hsz : 0 < size)
    (v xv : Value) (n m : Nat) (xs news : List Value) (hs : a.eval s = v) (hx : a.eval x = xv)
    (hown : w.ownsRow base e size v n xs) (hsrc : Src P size tx xv m news w)
    (hbytes : (n + m) * bytes ≤ 140737488355328) (h63 : n + m ≤ maxLen) (hbase : base ≤ w.heap.size)
    (h : ∀ v' w', w'.ownsRow base e size v' (n + m) (xs ++ news) → w.grownBy w' v.ownBlock → K (a.put o.dst v') w') : o.wp P a w K Q := by
  obtain ⟨i, hi, hz0, hz1, hz2⟩ := info_parts hinfo
  obtain ⟨v', w', hr, h2, h3⟩ := run_append_own_src (P := P) w base t tx o.type e i z size bytes ht hi hz0 hz1 hz2 hzs hsz v n xs hown xv m news hsrc hbytes h63 hbase
  unfold Oper.wp execOp
  simp only [ho, resolve, invoke, builtin, Sem.run_bind, Sem.run_pure, Result.andThen_ok, List.map_toArray, List.map_cons, List.map_nil, hs, hx, hr]
  exact h v' w' h2 h3
end

theorem Src.four {P : Program} {w : World} {tx e' t : TypeId} (hk : P.underlying tx = some (.slice e')) (a b c d : Value) (news : List Value) {w' : World} (hc : Chg No (w.alloc (.cells #[a, b, c, d] t)) w') (hn : news = [a, b, c, d]) (h1 : ∀ u ∈ news, u.oneCell' = true) :
    Src P 1 tx (.slice (some ⟨w.heap.size, 0, none⟩) 4 4) 4 news w' := by
  subst hn
  refine Src.ofSlice _ hk _ _ _ [a, b, c, d] (by simp) (fun j v hj => ?_) h1
  rw [Addr.add_lit, Nat.zero_add]
  match j, hj with
  | 0, hj => exact hc.cell (by rw [World.cell?_alloc_new]; simpa using hj) (fun x => x)
  | 1, hj => exact hc.cell (by rw [World.cell?_alloc_new]; simpa using hj) (fun x => x)
  | 2, hj => exact hc.cell (by rw [World.cell?_alloc_new]; simpa using hj) (fun x => x)
  | 3, hj => exact hc.cell (by rw [World.cell?_alloc_new]; simpa using hj) (fun x => x)
  | n + 4, hj => simp at hj
theorem Src.two {P : Program} {w : World} {tx e' t : TypeId} (hk : P.underlying tx = some (.slice e')) (a b : Value) (news : List Value) {w' : World} (hc : Chg No (w.alloc (.cells #[a, b] t)) w') (hn : news = [a, b]) (h1 : ∀ u ∈ news, u.oneCell' = true) :
    Src P 1 tx (.slice (some ⟨w.heap.size, 0, none⟩) 2 2) 2 news w' := by
  subst hn
  refine Src.ofSlice _ hk _ _ _ [a, b] (by simp) (fun j v hj => ?_) h1
  rw [Addr.add_lit, Nat.zero_add]
  match j, hj with
  | 0, hj => exact hc.cell (by rw [World.cell?_alloc_new]; simpa using hj) (fun x => x)
  | 1, hj => exact hc.cell (by rw [World.cell?_alloc_new]; simpa using hj) (fun x => x)
  | n + 2, hj => simp at hj

/-- A row of bytes of the call's own, in world w. -/
def Rows (base : Nat) (w : World) : Nat → Prop := fun k => base ≤ k ∧ ∃ c fz, w.heap[k]? = some (.cells c 5 fz)

theorem OwnB.cells {w : World} {base : Nat} {v : Value} {xs : List UInt8} (h : OwnB w base v xs) : ∀ k, v.ownBlock = some k → ∃ c fz, w.heap[k]? = some (.cells c 5 fz) := by
  intro k hk
  rcases h.2 with ⟨rfl, _⟩ | ⟨g, cap, cur, rfl, _, hg, _⟩
  · simp [Value.ownBlock] at hk
  · simp [Value.ownBlock] at hk
    subst hk
    exact ⟨cur, _, hg⟩

theorem Chg.rows {base : Nat} {a b c : World} {v : Value} {xs : List UInt8} (h : Chg (Rows base a) a b) (ho : OwnB b base v xs) (hg : b.grownBy c v.ownBlock) : Chg (Rows base a) a c := by
  refine h.grown hg (fun k hk => ?_)
  rcases Nat.lt_or_ge k a.heap.size with hlt | hge
  · right
    by_cases hR : Rows base a k
    · exact hR
    · have e := h.block k hlt hR
      obtain ⟨cc, fz, hc⟩ := ho.cells k hk
      rw [e] at hc
      exact ⟨(ho.block k hk).1, cc, fz, hc⟩
  · exact .inl hge

theorem Chg.iter {base : Nat} {a b : World} (h : Chg (Rows base a) a b) {k : Nat} {s : ByteArray} {pos : Nat} (hi : a.heap[k]? = some (.stringIter s pos)) : b.heap[k]? = some (.stringIter s pos) :=
  h.heap hi (fun hr => by obtain ⟨_, c, fz, hc⟩ := hr; rw [hi] at hc; cases hc)
theorem Chg.rowsNew {base : Nat} {w a b : World} (h0 : Chg No w a) (h : Chg (Rows base a) a b) (hb : w.heap.size ≤ base) : Chg No w b :=
  h0.trans h (fun i hi hr => by have := hr.1; omega)
end Go.Proofs.Ytccphnkdnifpfaa

namespace Go.Proofs.Ytccphnkdnifpfaa
set_option linter.unnecessarySimpa false
open Go.RowKit
set_option linter.unusedVariables false
set_option linter.unusedSimpArgs false

theorem OwnB.n {w : World} {base n : Nat} {v : Value} {xs : List UInt8} (h : OwnB w base v xs) (hl : xs.length = n) : w.ownsRow base 5 1 v n (u8s xs) := by subst hl; exact h
theorem OwnB.lit (w : World) (bs : List UInt8) (hb : bs.length ≤ maxLen) : OwnB (w.alloc (.cells (u8s bs).toArray 5)) w.heap.size (.slice (some ⟨w.heap.size, 0, none⟩) bs.length bs.length) bs :=
  ⟨by simp, .inr ⟨w.heap.size, bs.length, (u8s bs).toArray, rfl, Nat.le_refl _, heap_alloc_new w _, Nat.le_refl _, hb, by simp, by simp; exact List.take_of_length_le (by simp)⟩⟩
theorem OwnB.form {w : World} {base : Nat} {v : Value} {xs : List UInt8} (h : OwnB w base v xs) : ∃ A n c, v = .slice A n c ∧ Hid (xs.length = n) ∧ Hid (OwnB w base (.slice A n c) xs) := by
  obtain ⟨A, c, rfl, -, -⟩ := h.bytes.form
  exact ⟨A, _, c, rfl, rfl, h⟩
end Go.Proofs.Ytccphnkdnifpfaa

namespace Go.Proofs.Ytccphnkdnifpfaa
set_option linter.unnecessarySimpa false
open Go.RowKit
set_option linter.unusedVariables false
set_option linter.unusedSimpArgs false
set_option maxRecDepth 100000

/-- A disk that is not cut. -/
def DiskAt (w : World) (d m : Nat) (writes : Nat) (f : Option (ByteArray × Value)) : Prop :=
  w.heap[d]? = some (.cells #[.map (some m), .int .i64 (writes : Int), .int .i64 0, .bool false] 88 (0, 0)) ∧ w.heap[m]? = some (mapObj f)
theorem DiskAt.chg {S : Nat → Prop} {w w' : World} {d m writes : Nat} {f : Option (ByteArray × Value)} (h : DiskAt w d m writes f) (hc : Chg S w w') (h1 : ¬ S d) (h2 : ¬ S m) : DiskAt w' d m writes f :=
  ⟨hc.heap h.1 h1, hc.heap h.2 h2⟩
theorem DiskAt.cells {w : World} {d m writes : Nat} {f : Option (ByteArray × Value)} (h : DiskAt w d m writes f) :
    w.cell? ⟨d, 0, none⟩ = some (.map (some m)) ∧ w.cell? ⟨d, 1, none⟩ = some (.int .i64 (writes : Int)) ∧ w.cell? ⟨d, 2, none⟩ = some (.int .i64 0) ∧ w.cell? ⟨d, 3, none⟩ = some (.bool false) ∧ w.frozen? ⟨d, 1, none⟩ = false := by
  simp [World.cell?, World.frozen?, h.1]

set_option maxHeartbeats 800000 in
theorem new_calls (w : World) : Calls Try.prog 9 #[] w fun e w' => e = .returned (.pointer (some ⟨w.heap.size + 1, 0, none⟩)) ∧ DiskAt w' (w.heap.size + 1) w.heap.size 0 none ∧ Chg No w w' := by
  have hmm := @run_makeMap Try.prog
  go_enter Try.func9, Try.ntmps9
  go_wp2
  go_ret
  refine ⟨rfl, ⟨?_, ?_⟩, ((Chg.refl No w).alloc _).alloc _⟩
  · have h := heap_alloc_new (w.alloc (.map #[] 0)) (.cells #[.map (some w.heap.size), .int .i64 0, .int .i64 0, .bool false] 88)
    rw [World.size_alloc] at h
    exact h
  · exact ((Chg.refl No _).alloc _).heap (heap_alloc_new w (.map #[] 0)) (fun x => x)

set_option maxHeartbeats 800000 in
theorem dread_none (w : World) (d m wr : Nat) (k : ByteArray) (h : DiskAt w d m wr none) :
    Calls Try.prog 48 #[.pointer (some ⟨d, 0, none⟩), .string k] w fun e w' => e = .returned (.tuple #[.slice none 0 0, .int .i64 4]) ∧ Chg No w w' := by
  obtain ⟨c0, c1, c2, c3, c4⟩ := h.cells
  have hl := look_none w m k h.2
  go_enter Try.func48, Try.ntmps48
  go_wp2
  go_ret2
  exact ⟨rfl, Chg.refl _ _⟩
theorem dread_nil (w : World) (k : ByteArray) :
    Calls Try.prog 48 #[.pointer none, .string k] w fun e w' => e = .returned (.tuple #[.slice none 0 0, .int .i64 1]) ∧ Chg No w w' := by
  go_enter Try.func48, Try.ntmps48
  go_wp2
  go_ret2
  exact ⟨rfl, Chg.refl _ _⟩
set_option maxHeartbeats 800000 in
theorem may_one (w : World) (c : UInt8) (hc : 97 ≤ c.toNat ∧ c.toNat ≤ 122) : Calls Try.prog 87 #[.string ⟨#[c]⟩] w fun e w' => e = .returned (.bool true) ∧ Chg No w w' := by
  have hs : (⟨#[c]⟩ : ByteArray).size = 1 := rfl
  go_enter Try.func87, Try.ntmps87
  go_wp2
  go_loopw [15] (fun i wr => ∃ k : Nat, k ≤ 1 ∧ i = .int .i64 (k : Int) ∧ Hid (Chg No w wr)) (fun i _ => 1 - (intOf i).toNat)
  case atStart => exact ⟨0, by omega, rfl, Chg.refl _ _⟩
  case round =>
    obtain ⟨k, hk, rfl, HC⟩ := hrel
    by_cases h0 : k = 0
    · subst h0
      have hx : (⟨#[c]⟩ : ByteArray)[0]'(by show 0 < 1; omega) = c := rfl
      have t1 : (97 : Int) ≤ (c.toNat : Int) := by omega
      have t2 : (c.toNat : Int) ≤ 122 := by omega
      go_wp2
      go_roundw
      case rel => exact ⟨1, by omega, rfl, HC.out⟩
      case measure => simp only [intOf]; omega
    · have h1 : k = 1 := by omega
      subst h1
      go_wp2
      go_ret
      exact ⟨rfl, HC.out⟩
set_option maxHeartbeats 800000 in
theorem dread_some (w : World) (d m wr : Nat) (k : ByteArray) (A : Option Addr) (n c : Nat) (xs : List UInt8) (h : DiskAt w d m wr (some (k, .slice A n c))) (hb : Bytes w (.slice A n c) xs) (hx : n ≤ 140737488355328) :
    Calls Try.prog 48 #[.pointer (some ⟨d, 0, none⟩), .string k] w fun e w' => ∃ v, e = .returned (.tuple #[v, .int .i64 0]) ∧ OwnB w' w.heap.size v xs ∧ Chg No w w' := by
  obtain ⟨c0, c1, c2, c3, c4⟩ := h.cells
  have hl := look_same w m k _ h.2
  have HB := Lib.hid hb
  clear hb
  go_enter Try.func48, Try.ntmps48
  go_wp2_with fail
  refine (clone_any w A n c xs HB.out hx).mono ?_
  rintro e w1 ⟨v, rfl, ho, hc⟩
  obtain ⟨A', n', c', rfl, HL', HO'⟩ := ho.form
  have HC := Lib.hid hc
  clear ho hc
  go_wp2
  go_ret2
  exact ⟨_, rfl, HO'.out, HC.out⟩

/-- A raw write of a disk that is not cut. -/
theorem disk_raw (w : World) (d m wr : Nat) (f : Option (ByteArray × Value)) (h : DiskAt w d m wr f) (hw : wr < 9223372036854775807) (g : Nat) (caps : Array Value) (R : World → Prop) (hen : ∀ args w, (callFunc g args).run Try.prog w = .ok (.enter g args) w)
    (hF : Calls Try.prog g caps (w.setCell ⟨d, 1, none⟩ (.int .i64 ((wr : Int) + 1))) fun e w' => e = .returned (.tuple #[]) ∧ R w') :
    Calls Try.prog 85 #[.pointer (some ⟨d, 0, none⟩), .func (.func g) #[] caps] w fun e w' => e = .returned (.int .i64 0) ∧ R w' := by
  obtain ⟨c0, c1, c2, c3, c4⟩ := h.cells
  have HF := Lib.hid hF
  clear hF
  go_enter Try.func85, Try.ntmps85
  go_wp2_with fail
  refine HF.out.mono ?_
  rintro e w2 ⟨rfl, hr⟩
  go_wp2
  go_ret
  exact ⟨rfl, hr⟩
end Go.Proofs.Ytccphnkdnifpfaa

namespace Go.Proofs.Ytccphnkdnifpfaa
set_option linter.unnecessarySimpa false
open Go.RowKit
set_option linter.unusedVariables false
set_option linter.unusedSimpArgs false

section append
variable {P : Program} (w : World)
/-- append of whatever source onto a row of the call's own. -/
theorem run_append_own_src2 (base : Nat) (t tx ty e : TypeId) (i : TypeInfo) (z : Value) (size bytes : Nat) (ht : P.underlying t = some (.slice e)) (hi : P.info? e = some i) (hz : i.zero = some z)
    (hsize : i.size = size) (hby : i.bytes = bytes) (hzs : z.cells.size = size) (hsz : 0 < size)
    (v : Value) (n : Nat) (xs : List Value) (hown : w.ownsRow base e size v n xs)
    (x : Value) (m : Nat) (news : List Value) (hs : Src P size tx x m news w)
    (hbytes : (n + m) * bytes ≤ 140737488355328) (h63 : n + m ≤ maxLen) (hbase : base ≤ w.heap.size) :
    ∃ v' w', (Builtin.append_ #[t, tx] ty #[v, x]).run P w = .ok v' w' ∧ w'.ownsRow base e size v' (n + m) (xs ++ news) ∧ w.grownBy w' v.ownBlock ∧ (v'.ownBlock = v.ownBlock ∨ v'.ownBlock = some w.heap.size) := by
  subst hsize
  subst hby
  have hsmall : n + m ≤ 9223372036854775807 := by simp only [maxLen] at h63; omega
  have hl := hs.newsLen
  have hlen : (xs ++ news).length = (n + m) * i.size := by rw [List.length_append, hown.1, hl, Nat.add_mul]
  obtain ⟨A, c, hv, hfirst⟩ := ownsRow_first (P := P) w hown
  subst hv
  by_cases hroom : n + m ≤ c
  · rcases hown.2 with ⟨he, rfl⟩ | ⟨g, cap, cur, he, hbg, hg, hnc, hcm, hcs, htake⟩
    · simp only [Value.slice.injEq] at he
      obtain ⟨rfl, -, rfl⟩ := he
      obtain rfl : m = 0 := by omega
      have hn : news = [] := List.eq_nil_of_length_eq_zero (by simpa using hl)
      subst hn
      have hx : xs = [] := List.eq_nil_of_length_eq_zero (by simpa using hown.1)
      subst hx
      refine ⟨.slice none 0 0, w, ?_, World.ownsRow_nil w base e i.size, ⟨rfl, rfl, rfl, Nat.le_refl _, fun _ _ _ => rfl⟩, .inl rfl⟩
      rcases hs.kind with ⟨e', hk⟩ | hk <;> simp [Builtin.append_, run_underlying ht, run_underlying hk, sizeOf, typeInfo, hi, hs.len, hs.cells]
    · simp only [Value.slice.injEq, true_and] at he
      obtain ⟨rfl, rfl⟩ := he
      have hfit : n * i.size + news.length ≤ cur.size := by rw [hl, hcs, ← Nat.add_mul]; exact Nat.mul_le_mul_right _ hroom
      have hst := run_storeCells_at P g (n * i.size) e news 0 cur w hg (by simpa using hfit) hs.one
      simp only [Nat.add_zero] at hst
      refine ⟨.slice (some ⟨g, 0, none⟩) (n + m) c, w.setRow g (cur.toList.take (n * i.size) ++ news ++ cur.toList.drop (n * i.size + news.length)).toArray, ?_, ?_, ?_, .inl rfl⟩
      · rcases hs.kind with ⟨e', hk⟩ | hk <;> simp [Builtin.append_, run_underlying ht, run_underlying hk, sizeOf, typeInfo, hi, hs.len, hroom, hs.cells, Addr.add_lit, hst]
      · refine ⟨hlen, .inr ⟨g, c, _, rfl, hbg, setRow_heap w g cur _ e _ hg, hroom, hcm, ?_, ?_⟩⟩
        · simp only [List.size_toArray, List.length_append, List.length_take, List.length_drop, Array.length_toList]
          have hms : (n + m) * i.size ≤ c * i.size := Nat.mul_le_mul_right _ hroom
          rw [Nat.add_mul] at hms
          omega
        · rw [htake, ← hlen]
          exact List.take_left
      · exact ⟨rfl, rfl, rfl, by simp [World.setRow], fun k _ hk => setRow_other w g k _ (fun e => hk (by simp [Value.ownBlock, e]))⟩
  · refine ⟨_, _, run_append_grow_src (P := P) w t tx ty e i z ht hi hz A n c xs hfirst x m news hs (by omega) (by omega) (growslice_fits (by omega) hbytes), ?_, ?_, .inr rfl⟩
    · have hge := grownCap_ge w (n + m) c e
      have hcm : grownCap w (n + m) c e ≤ maxLen := grownCap_le_maxLen w (n + m) c e h63
      refine ⟨hlen, .inr ⟨w.heap.size, _, _, rfl, hbase, heap_alloc_new w.drew _, hge, hcm, ?_, ?_⟩⟩
      · simp only [Array.size_append, List.size_toArray, size_zeroCells, hzs, hlen, ← Nat.add_mul]
        congr 1
        omega
      · simp only [Array.toList_append]
        rw [← hlen]
        exact List.take_left
    · exact ⟨rfl, rfl, rfl, by simp, fun k hk _ => heap_alloc_old w.drew _ hk⟩

end append

section
variable {P : Program} {w : World}
theorem wp_app2 {o : Oper} {a : Act} {K : Act → World → Prop} {Q : Exit → Act → World → Prop} (s x : Operand) (t tx : TypeId)
    (ho : o.op = .call { callee := .builtin .append, args := #[s, x], argTypes := #[t, tx] })
    (base : Nat) (e : TypeId) (z : Value) (size bytes : Nat) (hinfo : (P.info? e).map (fun i => (i.zero, i.size, i.bytes)) = some (some z, size, bytes)) (ht : P.underlying t = some (.slice e))
    (hzs : z.cells.size = size) (hsz : 0 < size)
    (v xv : Value) (n m : Nat) (xs news : List Value) (hs : a.eval s = v) (hx : a.eval x = xv)
    (hown : w.ownsRow base e size v n xs) (hsrc : Src P size tx xv m news w)
    (hbytes : (n + m) * bytes ≤ 140737488355328) (h63 : n + m ≤ maxLen) (hbase : base ≤ w.heap.size)
    (h : ∀ v' w', w'.ownsRow base e size v' (n + m) (xs ++ news) → w.grownBy w' v.ownBlock → (v'.ownBlock = v.ownBlock ∨ v'.ownBlock = some w.heap.size) → K (a.put o.dst v') w') : o.wp P a w K Q := by
  obtain ⟨i, hi, hz0, hz1, hz2⟩ := info_parts hinfo
  obtain ⟨v', w', hr, h2, h3, h4⟩ := run_append_own_src2 (P := P) w base t tx o.type e i z size bytes ht hi hz0 hz1 hz2 hzs hsz v n xs hown xv m news hsrc hbytes h63 hbase
  unfold Oper.wp execOp
  simp only [ho, resolve, invoke, builtin, Sem.run_bind, Sem.run_pure, Result.andThen_ok, List.map_toArray, List.map_cons, List.map_nil, hs, hx, hr]
  exact h v' w' h2 h3 h4
end
/-- A row that is the other's, or a new one. -/
def From (w : World) (v v' : Value) : Prop := ∀ b, v'.ownBlock = some b → v.ownBlock = some b ∨ w.heap.size ≤ b
theorem From.refl (w : World) (v : Value) : From w v v := fun b hb => .inl hb
theorem From.trans {w w' : World} {v v' v'' : Value} (h : From w v v') (hs : w.heap.size ≤ w'.heap.size) (h' : From w' v' v'') : From w v v'' := by
  intro b hb
  rcases h' b hb with e | e
  · exact h b e
  · exact .inr (Nat.le_trans hs e)
theorem From.ofApp {w : World} {v v' : Value} (h : v'.ownBlock = v.ownBlock ∨ v'.ownBlock = some w.heap.size) : From w v v' := by
  intro b hb
  rcases h with e | e
  · exact .inl (e ▸ hb)
  · rw [hb] at e; cases e; exact .inr (Nat.le_refl _)
end Go.Proofs.Ytccphnkdnifpfaa

namespace Go.Proofs.Ytccphnkdnifpfaa
set_option linter.unnecessarySimpa false
open Go.RowKit
set_option linter.unusedVariables false
set_option linter.unusedSimpArgs false
set_option maxRecDepth 100000

set_option maxHeartbeats 1600000 in
theorem append_more (w : World) (base d m wr B0 B1 B2 : Nat) (k : ByteArray) (A A2 : Option Addr) (n c n2 c2 : Nat) (xs ys : List UInt8) (h : DiskAt w d m wr (some (k, .slice A n c))) (h0 : Boxed w B0 24 (.pointer (some ⟨d, 0, none⟩))) (h1 : Boxed w B1 9 (.string k)) (h2 : Boxed w B2 30 (.slice A2 n2 c2))
    (ho : OwnB w base (.slice A n c) xs) (hl : xs.length = n) (hb : Bytes w (.slice A2 n2 c2) ys) (hl2 : ys.length = n2) (hn : n + n2 ≤ 140737488355328) (hbase : base ≤ w.heap.size)  :
    Calls Try.prog 89 #[.pointer (some ⟨B0, 0, none⟩), .pointer (some ⟨B1, 0, none⟩), .pointer (some ⟨B2, 0, none⟩)] w fun e w' => e = .returned (.tuple #[]) ∧ ∃ v', DiskAt w' d m wr (some (k, v')) ∧ OwnB w' base v' (xs ++ ys) ∧ Chg (fun i => i = m ∨ some i = (Value.slice A n c).ownBlock) w w' ∧ From w (.slice A n c) v' := by
  have HO := Lib.hid ho
  have HL := Lib.hid hl
  have HB := Lib.hid hb
  have HL2 := Lib.hid hl2
  have HM := Lib.hid h.2
  obtain ⟨c0, c1, c2', c3, c4⟩ := h.cells
  have e0 := h0.cell
  have e1 := h1.cell
  have e2 := h2.cell
  have hlk := look_same1 w m k (.slice A n c) h.2
  have hlkd := look_same1 w.drew m k (.slice A n c) h.2
  have mlt : m < w.heap.size := (Array.getElem?_eq_some_iff.1 h.2).1
  have HMN : some m ≠ (Value.slice A n c).ownBlock := by
    intro e
    obtain ⟨cc, fz, hcc⟩ := OwnB.cells ho m e.symm
    rw [h.2] at hcc
    cases hcc
  have HDN : some d ≠ (Value.slice A n c).ownBlock := by
    intro e
    obtain ⟨cc, fz, hcc⟩ := OwnB.cells ho d e.symm
    rw [h.1] at hcc
    cases hcc
  have hmd : d ≠ m := by rintro rfl; have := h.1.symm.trans h.2; unfold mapObj at this; cases this
  have HD := Lib.hid h.1
  skip
  have N0 : ¬ (some B0 = (Value.slice A n c).ownBlock) := h0.not_row (by decide) ho
  have N1 : ¬ (some B1 = (Value.slice A n c).ownBlock) := h1.not_row (by decide) ho
  have N2 : ¬ (some B2 = (Value.slice A n c).ownBlock) := h2.not_row (by decide) ho
  have M0 : ¬ (B0 = m ∨ some B0 = (Value.slice A n c).ownBlock) := by
    rintro (e | e)
    · rw [e] at h0; have := (show w.heap[m]? = _ from h0).symm.trans h.2; unfold mapObj at this; cases this
    · exact N0 e
  have M1 : ¬ (B1 = m ∨ some B1 = (Value.slice A n c).ownBlock) := by
    rintro (e | e)
    · rw [e] at h1; have := (show w.heap[m]? = _ from h1).symm.trans h.2; unfold mapObj at this; cases this
    · exact N1 e
  have M2 : ¬ (B2 = m ∨ some B2 = (Value.slice A n c).ownBlock) := by
    rintro (e | e)
    · rw [e] at h2; have := (show w.heap[m]? = _ from h2).symm.trans h.2; unfold mapObj at this; cases this
    · exact N2 e
  have MD : ¬ (d = m ∨ some d = (Value.slice A n c).ownBlock) := by rintro (e | e); exact hmd e; exact HDN e
  have hc2 : ∀ (v' : Value) (w1 : World), Chg (fun i => some i = (Value.slice A n c).ownBlock) w w1 → Chg (fun i => i = m ∨ some i = (Value.slice A n c).ownBlock) w (w1.putObj m (mapObj (some (k, v')))) := by
    intro v' w1 hc
    refine ⟨hc.os, hc.tape, hc.output, Nat.le_trans hc.size (grownBy_putObj' w1 m _).size, fun i hi hs => ?_⟩
    refine ((grownBy_putObj' w1 m _).block i (Nat.lt_of_lt_of_le hi hc.size) (fun e => hs (.inl (Option.some.inj e)))).trans (hc.block i hi (fun e => hs (.inr e)))
  clear ho hl hb hl2 h h0 h1 h2
  go_enter Try.func89, Try.ntmps89
  refine wp_region_held_drew (S := (fun W => W.cell? ⟨B0, 0, none⟩ = some (.pointer (some ⟨d, 0, none⟩)) ∧ W.cell? ⟨B1, 0, none⟩ = some (.string k) ∧ W.cell? ⟨B2, 0, none⟩ = some (.slice A2 n2 c2) ∧ W.cell? ⟨d, 0, none⟩ = some (.map (some m)))) (by kernel_rfl) ⟨e0, e1, e2, c0⟩ (fun hSw => ?_)
  refine wpAnyH_take (i := 0) (oi := { dst := some 3, op := Go.Op.load 24 (Go.Operand.tmp 0), type := 24, pos := "disk.go:115", after := #[], guard := none }) (v := ?_) rfl (by kernel_rfl) (by kernel_rfl) (by kernel_rfl) (fun _ _ _ h => h) (Or.inl ⟨by rfl, ?_⟩) hSw ?_
  rotate_left
  · (intro W hW; obtain ⟨hq1, hq2, hq3, hq4⟩ := hW; go_simp; try with_reducible rfl)
  try simp only [Act.put, List.setIfInBounds_toArray, List.set_cons_zero, List.set_cons_succ]
  refine wpAnyH_take (i := 4) (oi := { dst := some 7, op := Go.Op.load 9 (Go.Operand.tmp 1), type := 9, pos := "disk.go:115", after := #[], guard := none }) (v := ?_) rfl (by kernel_rfl) (by kernel_rfl) (by kernel_rfl) (fun _ _ _ h => h) (Or.inl ⟨by rfl, ?_⟩) hSw ?_
  rotate_left
  · (intro W hW; obtain ⟨hq1, hq2, hq3, hq4⟩ := hW; go_simp; try with_reducible rfl)
  try simp only [Act.put, List.setIfInBounds_toArray, List.set_cons_zero, List.set_cons_succ]
  refine wpAnyH_take (i := 5) (oi := { dst := some 8, op := Go.Op.load 24 (Go.Operand.tmp 0), type := 24, pos := "disk.go:115", after := #[], guard := none }) (v := ?_) rfl (by kernel_rfl) (by kernel_rfl) (by kernel_rfl) (fun _ _ _ h => h) (Or.inl ⟨by rfl, ?_⟩) hSw ?_
  rotate_left
  · (intro W hW; obtain ⟨hq1, hq2, hq3, hq4⟩ := hW; go_simp; try with_reducible rfl)
  try simp only [Act.put, List.setIfInBounds_toArray, List.set_cons_zero, List.set_cons_succ]
  refine wpAnyH_take (i := 9) (oi := { dst := some 12, op := Go.Op.load 9 (Go.Operand.tmp 1), type := 9, pos := "disk.go:115", after := #[], guard := none }) (v := ?_) rfl (by kernel_rfl) (by kernel_rfl) (by kernel_rfl) (fun _ _ _ h => h) (Or.inl ⟨by rfl, ?_⟩) hSw ?_
  rotate_left
  · (intro W hW; obtain ⟨hq1, hq2, hq3, hq4⟩ := hW; go_simp; try with_reducible rfl)
  try simp only [Act.put, List.setIfInBounds_toArray, List.set_cons_zero, List.set_cons_succ]
  refine wpAnyH_take (i := 11) (oi := { dst := some 14, op := Go.Op.load 30 (Go.Operand.tmp 2), type := 30, pos := "disk.go:115", after := #[], guard := none }) (v := ?_) rfl (by kernel_rfl) (by kernel_rfl) (by kernel_rfl) (fun _ _ _ h => h) (Or.inl ⟨by rfl, ?_⟩) hSw ?_
  rotate_left
  · (intro W hW; obtain ⟨hq1, hq2, hq3, hq4⟩ := hW; go_simp; try with_reducible rfl)
  try simp only [Act.put, List.setIfInBounds_toArray, List.set_cons_zero, List.set_cons_succ]
  refine wpAnyH_take (i := 1) (oi := { dst := some 4, op := Go.Op.nilCheck (Go.Operand.tmp 3), type := 0, pos := "disk.go:115", after := #[{ on := 0, ground := Go.Ground.data }], guard := none }) (v := ?_) rfl (by kernel_rfl) (by kernel_rfl) (by kernel_rfl) (fun _ _ _ h => h) (Or.inl ⟨by rfl, ?_⟩) hSw ?_
  rotate_left
  · (intro W hW; obtain ⟨hq1, hq2, hq3, hq4⟩ := hW; go_simp; try with_reducible rfl)
  try simp only [Act.put, List.setIfInBounds_toArray, List.set_cons_zero, List.set_cons_succ]
  refine wpAnyH_take (i := 6) (oi := { dst := some 9, op := Go.Op.nilCheck (Go.Operand.tmp 8), type := 0, pos := "disk.go:115", after := #[{ on := 5, ground := Go.Ground.data }], guard := none }) (v := ?_) rfl (by kernel_rfl) (by kernel_rfl) (by kernel_rfl) (fun _ _ _ h => h) (Or.inl ⟨by rfl, ?_⟩) hSw ?_
  rotate_left
  · (intro W hW; obtain ⟨hq1, hq2, hq3, hq4⟩ := hW; go_simp; try with_reducible rfl)
  try simp only [Act.put, List.setIfInBounds_toArray, List.set_cons_zero, List.set_cons_succ]
  refine wpAnyH_take (i := 2) (oi := { dst := some 5, op := Go.Op.fieldAddr 88 (Go.Operand.tmp 4) 0, type := 0, pos := "disk.go:115", after := #[{ on := 1, ground := Go.Ground.data }], guard := none }) (v := ?_) rfl (by kernel_rfl) (by kernel_rfl) (by kernel_rfl) (fun _ _ _ h => h) (Or.inl ⟨by rfl, ?_⟩) hSw ?_
  rotate_left
  · (intro W hW; obtain ⟨hq1, hq2, hq3, hq4⟩ := hW; go_simp; try with_reducible rfl)
  try simp only [Act.put, List.setIfInBounds_toArray, List.set_cons_zero, List.set_cons_succ]
  refine wpAnyH_take (i := 7) (oi := { dst := some 10, op := Go.Op.fieldAddr 88 (Go.Operand.tmp 9) 0, type := 0, pos := "disk.go:115", after := #[{ on := 6, ground := Go.Ground.data }], guard := none }) (v := ?_) rfl (by kernel_rfl) (by kernel_rfl) (by kernel_rfl) (fun _ _ _ h => h) (Or.inl ⟨by rfl, ?_⟩) hSw ?_
  rotate_left
  · (intro W hW; obtain ⟨hq1, hq2, hq3, hq4⟩ := hW; go_simp; try with_reducible rfl)
  try simp only [Act.put, List.setIfInBounds_toArray, List.set_cons_zero, List.set_cons_succ]
  refine wpAnyH_take (i := 3) (oi := { dst := some 6, op := Go.Op.load 86 (Go.Operand.tmp 5), type := 86, pos := "disk.go:115", after := #[{ on := 2, ground := Go.Ground.data }], guard := none }) (v := ?_) rfl (by kernel_rfl) (by kernel_rfl) (by kernel_rfl) (fun _ _ _ h => h) (Or.inl ⟨by rfl, ?_⟩) hSw ?_
  rotate_left
  · (intro W hW; obtain ⟨hq1, hq2, hq3, hq4⟩ := hW; go_simp; try with_reducible rfl)
  try simp only [Act.put, List.setIfInBounds_toArray, List.set_cons_zero, List.set_cons_succ]
  refine wpAnyH_take (i := 8) (oi := { dst := some 11, op := Go.Op.load 86 (Go.Operand.tmp 10), type := 86, pos := "disk.go:115", after := #[{ on := 7, ground := Go.Ground.data }], guard := none }) (v := ?_) rfl (by kernel_rfl) (by kernel_rfl) (by kernel_rfl) (fun _ _ _ h => h) (Or.inl ⟨by rfl, ?_⟩) hSw ?_
  rotate_left
  · (intro W hW; obtain ⟨hq1, hq2, hq3, hq4⟩ := hW; go_simp; try with_reducible rfl)
  try simp only [Act.put, List.setIfInBounds_toArray, List.set_cons_zero, List.set_cons_succ]
  refine wpAnyH_ready (rs := [10]) (by kernel_rfl) (by simp) ?_
  refine AllReadyH.cons (o := { dst := some 13, op := Go.Op.lookup 86 (Go.Operand.tmp 11) (Go.Operand.tmp 12) false, type := 30, pos := "disk.go:115", after := #[{ on := 8, ground := Go.Ground.data }, { on := 9, ground := Go.Ground.data }], guard := none }) rfl (fun K hK => ?_) AllReadyH.nil
  rw [if_pos (by rfl)]
  go_simp
  refine hK.out _ _ ⟨e0, e1, e2, c0⟩ (fun hSw => ?_)
  clear hK
  try simp only [Act.put, List.setIfInBounds_toArray, List.set_cons_zero, List.set_cons_succ]
  refine wpAnyH_ready (rs := [12]) (by kernel_rfl) (by simp) ?_
  refine AllReadyH.cons (o := { dst := some 15, op := Go.Op.call { callee := Go.Callee.builtin Go.Builtin.append, args := #[Go.Operand.tmp 13, Go.Operand.tmp 14], argTypes := #[30, 30] }, type := 30, pos := "disk.go:115", after := #[{ on := 10, ground := Go.Ground.data }, { on := 11, ground := Go.Ground.data }], guard := none }) rfl (fun K hK => ?_) AllReadyH.nil
  rw [if_pos (by rfl)]
  refine wp_app2 (.tmp 13) (.tmp 14) 30 30 rfl base 5 (.int .u8 0) 1 1 infoU8 Try.underlying30 rfl (by decide) (.slice A n c) (.slice A2 n2 c2) n n2 (u8s xs) (u8s ys) rfl rfl ?_ ?_ ?_ ?_ ?_ ?_
  · exact OwnB.n (OwnB.chg (S := No) HO.out (Chg.refl No _).drew (fun _ _ x => x)) HL.out
  · exact Src.ofBytes Try.underlying30 (Bytes.no HB.out (Chg.refl No _).drew) HL2.out
  · omega
  · unfold maxLen; omega
  · exact hbase
  intro v' w1 hown hg hfrom
  have hc1 : Chg (fun i => some i = (Value.slice A n c).ownBlock) w w1 := ⟨hg.os, hg.tape, hg.output, hg.size, fun i hi hn => hg.block i hi hn⟩
  have hw1m := hc1.heap HM.out HMN
  have hup := update_same w1 m k (.slice A n c) v' hw1m
  refine hK.out _ _ ⟨hc1.cell e0 N0, hc1.cell e1 N1, hc1.cell e2 N2, hc1.cell c0 HDN⟩ (fun hSw => ?_)
  clear hK
  try simp only [Act.put, List.setIfInBounds_toArray, List.set_cons_zero, List.set_cons_succ]
  refine wpAnyH_ready (rs := [13]) (by kernel_rfl) (by simp) ?_
  refine AllReadyH.cons (o := { dst := none, op := Go.Op.mapUpdate 86 (Go.Operand.tmp 6) (Go.Operand.tmp 7) (Go.Operand.tmp 15), type := 0, pos := "disk.go:115", after := #[{ on := 3, ground := Go.Ground.data }, { on := 4, ground := Go.Ground.data }, { on := 12, ground := Go.Ground.data }, { on := 12, ground := Go.Ground.chain }, { on := 0, ground := Go.Ground.phase }, { on := 1, ground := Go.Ground.phase }, { on := 2, ground := Go.Ground.phase }, { on := 3, ground := Go.Ground.phase }, { on := 4, ground := Go.Ground.phase }, { on := 5, ground := Go.Ground.phase }, { on := 6, ground := Go.Ground.phase }, { on := 7, ground := Go.Ground.phase }, { on := 8, ground := Go.Ground.phase }, { on := 9, ground := Go.Ground.phase }, { on := 10, ground := Go.Ground.phase }, { on := 11, ground := Go.Ground.phase }, { on := 12, ground := Go.Ground.phase }], guard := none }) rfl (fun K hK => ?_) AllReadyH.nil
  rw [if_pos (by rfl)]
  go_simp
  refine hK.out _ _ ⟨(hc2 v' w1 hc1).cell e0 M0, (hc2 v' w1 hc1).cell e1 M1, (hc2 v' w1 hc1).cell e2 M2, (hc2 v' w1 hc1).cell c0 MD⟩ (fun hSw => ?_)
  clear hK
  try simp only [Act.put, List.setIfInBounds_toArray, List.set_cons_zero, List.set_cons_succ]
  refine wpAnyH_done (by kernel_rfl) ?_ _
  have hm2 : (w1.putObj m (mapObj (some (k, v')))).heap[m]? = some (mapObj (some (k, v'))) := by
    have hlt : m < w1.heap.size := (Array.getElem?_eq_some_iff.1 hw1m).1
    simp [World.putObj, hlt]
  have hd2 := (hc2 v' w1 hc1).heap HD.out MD
  have ho2 : OwnB (w1.putObj m (mapObj (some (k, v')))) base v' (xs ++ ys) := by
    have ho1 : OwnB w1 base v' (xs ++ ys) := .of hown (by rw [u8s_append])
    refine ho1.chg (S := One m) ⟨rfl, rfl, rfl, (grownBy_putObj' w1 m _).size, fun i hi hs => (grownBy_putObj' w1 m _).block i hi (fun e => hs (Option.some.inj e))⟩ (fun b hb hx => ?_)
    obtain ⟨cc, fz, hcc⟩ := OwnB.cells ho1 b hb
    have hx : b = m := hx
    rw [hx, hw1m] at hcc
    cases hcc
  have hc3 := hc2 v' w1 hc1
  clear hup hown hg
  go_wp2
  go_end0
  exact ⟨rfl, v', ⟨hd2, hm2⟩, ho2, hc3, From.ofApp hfrom⟩

set_option maxHeartbeats 1600000 in
theorem append_first (w : World) (base d m wr B0 B1 B2 : Nat) (k : ByteArray) (A2 : Option Addr) (n2 c2 : Nat) (ys : List UInt8) (h : DiskAt w d m wr none) (h0 : Boxed w B0 24 (.pointer (some ⟨d, 0, none⟩))) (h1 : Boxed w B1 9 (.string k)) (h2 : Boxed w B2 30 (.slice A2 n2 c2))
    (hb : Bytes w (.slice A2 n2 c2) ys) (hl2 : ys.length = n2) (hn : 0 + n2 ≤ 140737488355328) (hbase : base ≤ w.heap.size)  :
    Calls Try.prog 89 #[.pointer (some ⟨B0, 0, none⟩), .pointer (some ⟨B1, 0, none⟩), .pointer (some ⟨B2, 0, none⟩)] w fun e w' => e = .returned (.tuple #[]) ∧ ∃ v', DiskAt w' d m wr (some (k, v')) ∧ OwnB w' base v' ([] ++ ys) ∧ Chg (fun i => i = m ∨ some i = (Value.slice none 0 0).ownBlock) w w' ∧ From w (.slice none 0 0) v' := by
  have ho : OwnB w base (.slice none 0 0) [] := World.ownsRow_nil _ _ _ _
  have hl : ([] : List UInt8).length = 0 := rfl
  have HO := Lib.hid ho
  have HL := Lib.hid hl
  have HB := Lib.hid hb
  have HL2 := Lib.hid hl2
  have HM := Lib.hid h.2
  obtain ⟨c0, c1, c2', c3, c4⟩ := h.cells
  have e0 := h0.cell
  have e1 := h1.cell
  have e2 := h2.cell
  have hlk := look_none1 w m k h.2
  have hlkd := look_none1 w.drew m k h.2
  have mlt : m < w.heap.size := (Array.getElem?_eq_some_iff.1 h.2).1
  have HMN : some m ≠ (Value.slice none 0 0).ownBlock := by
    intro e
    obtain ⟨cc, fz, hcc⟩ := OwnB.cells ho m e.symm
    rw [h.2] at hcc
    cases hcc
  have HDN : some d ≠ (Value.slice none 0 0).ownBlock := by
    intro e
    obtain ⟨cc, fz, hcc⟩ := OwnB.cells ho d e.symm
    rw [h.1] at hcc
    cases hcc
  have hmd : d ≠ m := by rintro rfl; have := h.1.symm.trans h.2; unfold mapObj at this; cases this
  have HD := Lib.hid h.1
  have N0 : ¬ (some B0 = (Value.slice none 0 0).ownBlock) := h0.not_row (by decide) ho
  have N1 : ¬ (some B1 = (Value.slice none 0 0).ownBlock) := h1.not_row (by decide) ho
  have N2 : ¬ (some B2 = (Value.slice none 0 0).ownBlock) := h2.not_row (by decide) ho
  have M0 : ¬ (B0 = m ∨ some B0 = (Value.slice none 0 0).ownBlock) := by
    rintro (e | e)
    · rw [e] at h0; have := (show w.heap[m]? = _ from h0).symm.trans h.2; unfold mapObj at this; cases this
    · exact N0 e
  have M1 : ¬ (B1 = m ∨ some B1 = (Value.slice none 0 0).ownBlock) := by
    rintro (e | e)
    · rw [e] at h1; have := (show w.heap[m]? = _ from h1).symm.trans h.2; unfold mapObj at this; cases this
    · exact N1 e
  have M2 : ¬ (B2 = m ∨ some B2 = (Value.slice none 0 0).ownBlock) := by
    rintro (e | e)
    · rw [e] at h2; have := (show w.heap[m]? = _ from h2).symm.trans h.2; unfold mapObj at this; cases this
    · exact N2 e
  have MD : ¬ (d = m ∨ some d = (Value.slice none 0 0).ownBlock) := by rintro (e | e); exact hmd e; exact HDN e
  have hc2 : ∀ (v' : Value) (w1 : World), Chg (fun i => some i = (Value.slice none 0 0).ownBlock) w w1 → Chg (fun i => i = m ∨ some i = (Value.slice none 0 0).ownBlock) w (w1.putObj m (mapObj (some (k, v')))) := by
    intro v' w1 hc
    refine ⟨hc.os, hc.tape, hc.output, Nat.le_trans hc.size (grownBy_putObj' w1 m _).size, fun i hi hs => ?_⟩
    refine ((grownBy_putObj' w1 m _).block i (Nat.lt_of_lt_of_le hi hc.size) (fun e => hs (.inl (Option.some.inj e)))).trans (hc.block i hi (fun e => hs (.inr e)))
  clear ho hl hb hl2 h h0 h1 h2
  go_enter Try.func89, Try.ntmps89
  refine wp_region_held_drew (S := (fun W => W.cell? ⟨B0, 0, none⟩ = some (.pointer (some ⟨d, 0, none⟩)) ∧ W.cell? ⟨B1, 0, none⟩ = some (.string k) ∧ W.cell? ⟨B2, 0, none⟩ = some (.slice A2 n2 c2) ∧ W.cell? ⟨d, 0, none⟩ = some (.map (some m)))) (by kernel_rfl) ⟨e0, e1, e2, c0⟩ (fun hSw => ?_)
  refine wpAnyH_take (i := 0) (oi := { dst := some 3, op := Go.Op.load 24 (Go.Operand.tmp 0), type := 24, pos := "disk.go:115", after := #[], guard := none }) (v := ?_) rfl (by kernel_rfl) (by kernel_rfl) (by kernel_rfl) (fun _ _ _ h => h) (Or.inl ⟨by rfl, ?_⟩) hSw ?_
  rotate_left
  · (intro W hW; obtain ⟨hq1, hq2, hq3, hq4⟩ := hW; go_simp; try with_reducible rfl)
  try simp only [Act.put, List.setIfInBounds_toArray, List.set_cons_zero, List.set_cons_succ]
  refine wpAnyH_take (i := 4) (oi := { dst := some 7, op := Go.Op.load 9 (Go.Operand.tmp 1), type := 9, pos := "disk.go:115", after := #[], guard := none }) (v := ?_) rfl (by kernel_rfl) (by kernel_rfl) (by kernel_rfl) (fun _ _ _ h => h) (Or.inl ⟨by rfl, ?_⟩) hSw ?_
  rotate_left
  · (intro W hW; obtain ⟨hq1, hq2, hq3, hq4⟩ := hW; go_simp; try with_reducible rfl)
  try simp only [Act.put, List.setIfInBounds_toArray, List.set_cons_zero, List.set_cons_succ]
  refine wpAnyH_take (i := 5) (oi := { dst := some 8, op := Go.Op.load 24 (Go.Operand.tmp 0), type := 24, pos := "disk.go:115", after := #[], guard := none }) (v := ?_) rfl (by kernel_rfl) (by kernel_rfl) (by kernel_rfl) (fun _ _ _ h => h) (Or.inl ⟨by rfl, ?_⟩) hSw ?_
  rotate_left
  · (intro W hW; obtain ⟨hq1, hq2, hq3, hq4⟩ := hW; go_simp; try with_reducible rfl)
  try simp only [Act.put, List.setIfInBounds_toArray, List.set_cons_zero, List.set_cons_succ]
  refine wpAnyH_take (i := 9) (oi := { dst := some 12, op := Go.Op.load 9 (Go.Operand.tmp 1), type := 9, pos := "disk.go:115", after := #[], guard := none }) (v := ?_) rfl (by kernel_rfl) (by kernel_rfl) (by kernel_rfl) (fun _ _ _ h => h) (Or.inl ⟨by rfl, ?_⟩) hSw ?_
  rotate_left
  · (intro W hW; obtain ⟨hq1, hq2, hq3, hq4⟩ := hW; go_simp; try with_reducible rfl)
  try simp only [Act.put, List.setIfInBounds_toArray, List.set_cons_zero, List.set_cons_succ]
  refine wpAnyH_take (i := 11) (oi := { dst := some 14, op := Go.Op.load 30 (Go.Operand.tmp 2), type := 30, pos := "disk.go:115", after := #[], guard := none }) (v := ?_) rfl (by kernel_rfl) (by kernel_rfl) (by kernel_rfl) (fun _ _ _ h => h) (Or.inl ⟨by rfl, ?_⟩) hSw ?_
  rotate_left
  · (intro W hW; obtain ⟨hq1, hq2, hq3, hq4⟩ := hW; go_simp; try with_reducible rfl)
  try simp only [Act.put, List.setIfInBounds_toArray, List.set_cons_zero, List.set_cons_succ]
  refine wpAnyH_take (i := 1) (oi := { dst := some 4, op := Go.Op.nilCheck (Go.Operand.tmp 3), type := 0, pos := "disk.go:115", after := #[{ on := 0, ground := Go.Ground.data }], guard := none }) (v := ?_) rfl (by kernel_rfl) (by kernel_rfl) (by kernel_rfl) (fun _ _ _ h => h) (Or.inl ⟨by rfl, ?_⟩) hSw ?_
  rotate_left
  · (intro W hW; obtain ⟨hq1, hq2, hq3, hq4⟩ := hW; go_simp; try with_reducible rfl)
  try simp only [Act.put, List.setIfInBounds_toArray, List.set_cons_zero, List.set_cons_succ]
  refine wpAnyH_take (i := 6) (oi := { dst := some 9, op := Go.Op.nilCheck (Go.Operand.tmp 8), type := 0, pos := "disk.go:115", after := #[{ on := 5, ground := Go.Ground.data }], guard := none }) (v := ?_) rfl (by kernel_rfl) (by kernel_rfl) (by kernel_rfl) (fun _ _ _ h => h) (Or.inl ⟨by rfl, ?_⟩) hSw ?_
  rotate_left
  · (intro W hW; obtain ⟨hq1, hq2, hq3, hq4⟩ := hW; go_simp; try with_reducible rfl)
  try simp only [Act.put, List.setIfInBounds_toArray, List.set_cons_zero, List.set_cons_succ]
  refine wpAnyH_take (i := 2) (oi := { dst := some 5, op := Go.Op.fieldAddr 88 (Go.Operand.tmp 4) 0, type := 0, pos := "disk.go:115", after := #[{ on := 1, ground := Go.Ground.data }], guard := none }) (v := ?_) rfl (by kernel_rfl) (by kernel_rfl) (by kernel_rfl) (fun _ _ _ h => h) (Or.inl ⟨by rfl, ?_⟩) hSw ?_
  rotate_left
  · (intro W hW; obtain ⟨hq1, hq2, hq3, hq4⟩ := hW; go_simp; try with_reducible rfl)
  try simp only [Act.put, List.setIfInBounds_toArray, List.set_cons_zero, List.set_cons_succ]
  refine wpAnyH_take (i := 7) (oi := { dst := some 10, op := Go.Op.fieldAddr 88 (Go.Operand.tmp 9) 0, type := 0, pos := "disk.go:115", after := #[{ on := 6, ground := Go.Ground.data }], guard := none }) (v := ?_) rfl (by kernel_rfl) (by kernel_rfl) (by kernel_rfl) (fun _ _ _ h => h) (Or.inl ⟨by rfl, ?_⟩) hSw ?_
  rotate_left
  · (intro W hW; obtain ⟨hq1, hq2, hq3, hq4⟩ := hW; go_simp; try with_reducible rfl)
  try simp only [Act.put, List.setIfInBounds_toArray, List.set_cons_zero, List.set_cons_succ]
  refine wpAnyH_take (i := 3) (oi := { dst := some 6, op := Go.Op.load 86 (Go.Operand.tmp 5), type := 86, pos := "disk.go:115", after := #[{ on := 2, ground := Go.Ground.data }], guard := none }) (v := ?_) rfl (by kernel_rfl) (by kernel_rfl) (by kernel_rfl) (fun _ _ _ h => h) (Or.inl ⟨by rfl, ?_⟩) hSw ?_
  rotate_left
  · (intro W hW; obtain ⟨hq1, hq2, hq3, hq4⟩ := hW; go_simp; try with_reducible rfl)
  try simp only [Act.put, List.setIfInBounds_toArray, List.set_cons_zero, List.set_cons_succ]
  refine wpAnyH_take (i := 8) (oi := { dst := some 11, op := Go.Op.load 86 (Go.Operand.tmp 10), type := 86, pos := "disk.go:115", after := #[{ on := 7, ground := Go.Ground.data }], guard := none }) (v := ?_) rfl (by kernel_rfl) (by kernel_rfl) (by kernel_rfl) (fun _ _ _ h => h) (Or.inl ⟨by rfl, ?_⟩) hSw ?_
  rotate_left
  · (intro W hW; obtain ⟨hq1, hq2, hq3, hq4⟩ := hW; go_simp; try with_reducible rfl)
  try simp only [Act.put, List.setIfInBounds_toArray, List.set_cons_zero, List.set_cons_succ]
  refine wpAnyH_ready (rs := [10]) (by kernel_rfl) (by simp) ?_
  refine AllReadyH.cons (o := { dst := some 13, op := Go.Op.lookup 86 (Go.Operand.tmp 11) (Go.Operand.tmp 12) false, type := 30, pos := "disk.go:115", after := #[{ on := 8, ground := Go.Ground.data }, { on := 9, ground := Go.Ground.data }], guard := none }) rfl (fun K hK => ?_) AllReadyH.nil
  rw [if_pos (by rfl)]
  go_simp
  refine hK.out _ _ ⟨e0, e1, e2, c0⟩ (fun hSw => ?_)
  clear hK
  try simp only [Act.put, List.setIfInBounds_toArray, List.set_cons_zero, List.set_cons_succ]
  refine wpAnyH_ready (rs := [12]) (by kernel_rfl) (by simp) ?_
  refine AllReadyH.cons (o := { dst := some 15, op := Go.Op.call { callee := Go.Callee.builtin Go.Builtin.append, args := #[Go.Operand.tmp 13, Go.Operand.tmp 14], argTypes := #[30, 30] }, type := 30, pos := "disk.go:115", after := #[{ on := 10, ground := Go.Ground.data }, { on := 11, ground := Go.Ground.data }], guard := none }) rfl (fun K hK => ?_) AllReadyH.nil
  rw [if_pos (by rfl)]
  refine wp_app2 (.tmp 13) (.tmp 14) 30 30 rfl base 5 (.int .u8 0) 1 1 infoU8 Try.underlying30 rfl (by decide) (.slice none 0 0) (.slice A2 n2 c2) 0 n2 (u8s []) (u8s ys) rfl rfl ?_ ?_ ?_ ?_ ?_ ?_
  · exact OwnB.n (OwnB.chg (S := No) HO.out (Chg.refl No _).drew (fun _ _ x => x)) HL.out
  · exact Src.ofBytes Try.underlying30 (Bytes.no HB.out (Chg.refl No _).drew) HL2.out
  · omega
  · unfold maxLen; omega
  · exact hbase
  intro v' w1 hown hg hfrom
  have hc1 : Chg (fun i => some i = (Value.slice none 0 0).ownBlock) w w1 := ⟨hg.os, hg.tape, hg.output, hg.size, fun i hi hn => hg.block i hi hn⟩
  have hw1m := hc1.heap HM.out HMN
  have hup := update_none w1 m k v' hw1m
  refine hK.out _ _ ⟨hc1.cell e0 N0, hc1.cell e1 N1, hc1.cell e2 N2, hc1.cell c0 HDN⟩ (fun hSw => ?_)
  clear hK
  try simp only [Act.put, List.setIfInBounds_toArray, List.set_cons_zero, List.set_cons_succ]
  refine wpAnyH_ready (rs := [13]) (by kernel_rfl) (by simp) ?_
  refine AllReadyH.cons (o := { dst := none, op := Go.Op.mapUpdate 86 (Go.Operand.tmp 6) (Go.Operand.tmp 7) (Go.Operand.tmp 15), type := 0, pos := "disk.go:115", after := #[{ on := 3, ground := Go.Ground.data }, { on := 4, ground := Go.Ground.data }, { on := 12, ground := Go.Ground.data }, { on := 12, ground := Go.Ground.chain }, { on := 0, ground := Go.Ground.phase }, { on := 1, ground := Go.Ground.phase }, { on := 2, ground := Go.Ground.phase }, { on := 3, ground := Go.Ground.phase }, { on := 4, ground := Go.Ground.phase }, { on := 5, ground := Go.Ground.phase }, { on := 6, ground := Go.Ground.phase }, { on := 7, ground := Go.Ground.phase }, { on := 8, ground := Go.Ground.phase }, { on := 9, ground := Go.Ground.phase }, { on := 10, ground := Go.Ground.phase }, { on := 11, ground := Go.Ground.phase }, { on := 12, ground := Go.Ground.phase }], guard := none }) rfl (fun K hK => ?_) AllReadyH.nil
  rw [if_pos (by rfl)]
  go_simp
  refine hK.out _ _ ⟨(hc2 v' w1 hc1).cell e0 M0, (hc2 v' w1 hc1).cell e1 M1, (hc2 v' w1 hc1).cell e2 M2, (hc2 v' w1 hc1).cell c0 MD⟩ (fun hSw => ?_)
  clear hK
  try simp only [Act.put, List.setIfInBounds_toArray, List.set_cons_zero, List.set_cons_succ]
  refine wpAnyH_done (by kernel_rfl) ?_ _
  have hm2 : (w1.putObj m (mapObj (some (k, v')))).heap[m]? = some (mapObj (some (k, v'))) := by
    have hlt : m < w1.heap.size := (Array.getElem?_eq_some_iff.1 hw1m).1
    simp [World.putObj, hlt]
  have hd2 := (hc2 v' w1 hc1).heap HD.out MD
  have ho2 : OwnB (w1.putObj m (mapObj (some (k, v')))) base v' ([] ++ ys) := by
    have ho1 : OwnB w1 base v' ([] ++ ys) := .of hown (by rw [u8s_append])
    refine ho1.chg (S := One m) ⟨rfl, rfl, rfl, (grownBy_putObj' w1 m _).size, fun i hi hs => (grownBy_putObj' w1 m _).block i hi (fun e => hs (Option.some.inj e))⟩ (fun b hb hx => ?_)
    obtain ⟨cc, fz, hcc⟩ := OwnB.cells ho1 b hb
    have hx : b = m := hx
    rw [hx, hw1m] at hcc
    cases hcc
  have hc3 := hc2 v' w1 hc1
  clear hup hown hg
  go_wp2
  go_end0
  exact ⟨rfl, v', ⟨hd2, hm2⟩, ho2, hc3, From.ofApp hfrom⟩
end Go.Proofs.Ytccphnkdnifpfaa

namespace Go.Proofs.Ytccphnkdnifpfaa
set_option linter.unnecessarySimpa false
open Go.RowKit Go.Shelf
set_option linter.unusedVariables false
set_option linter.unusedSimpArgs false
set_option maxRecDepth 100000

/-- The blocks that a disk and its one file change. -/
def DS (d m : Nat) (v : Value) : Nat → Prop := fun i => i = d ∨ i = m ∨ some i = v.ownBlock

theorem append_any (w : World) (base d m wr B0 B1 B2 : Nat) (k : ByteArray) (A A2 : Option Addr) (n c n2 c2 : Nat) (xs ys : List UInt8) (f : Option (ByteArray × Value)) (hf : f = some (k, .slice A n c) ∨ (f = none ∧ A = none ∧ n = 0 ∧ c = 0 ∧ xs = [])) (h : DiskAt w d m wr f) (h0 : Boxed w B0 24 (.pointer (some ⟨d, 0, none⟩))) (h1 : Boxed w B1 9 (.string k)) (h2 : Boxed w B2 30 (.slice A2 n2 c2))
    (ho : OwnB w base (.slice A n c) xs) (hl : xs.length = n) (hb : Bytes w (.slice A2 n2 c2) ys) (hl2 : ys.length = n2) (hn : n + n2 ≤ 140737488355328) (hbase : base ≤ w.heap.size) :
    Calls Try.prog 89 #[.pointer (some ⟨B0, 0, none⟩), .pointer (some ⟨B1, 0, none⟩), .pointer (some ⟨B2, 0, none⟩)] w fun e w' => e = .returned (.tuple #[]) ∧ ∃ v', DiskAt w' d m wr (some (k, v')) ∧ OwnB w' base v' (xs ++ ys) ∧ Chg (fun i => i = m ∨ some i = (Value.slice A n c).ownBlock) w w' ∧ From w (.slice A n c) v' := by
  rcases hf with rfl | ⟨rfl, rfl, rfl, rfl, rfl⟩
  · exact append_more w base d m wr B0 B1 B2 k A A2 n c n2 c2 xs ys h h0 h1 h2 ho hl hb hl2 hn hbase
  · exact append_first w base d m wr B0 B1 B2 k A2 n2 c2 ys h h0 h1 h2 hb hl2 hn hbase

/-- One raw write of a piece. -/
theorem piece_calls (w : World) (base d m wr B0 B1 B2 : Nat) (k : ByteArray) (A A2 : Option Addr) (n c n2 c2 : Nat) (xs ys : List UInt8) (f : Option (ByteArray × Value)) (hf : f = some (k, .slice A n c) ∨ (f = none ∧ A = none ∧ n = 0 ∧ c = 0 ∧ xs = [])) (h : DiskAt w d m wr f) (hw : wr < 9223372036854775807) (h0 : Boxed w B0 24 (.pointer (some ⟨d, 0, none⟩))) (h1 : Boxed w B1 9 (.string k)) (h2 : Boxed w B2 30 (.slice A2 n2 c2))
    (ho : OwnB w base (.slice A n c) xs) (hl : xs.length = n) (hb : Bytes w (.slice A2 n2 c2) ys) (hl2 : ys.length = n2) (hn : n + n2 ≤ 140737488355328) (hbase : base ≤ w.heap.size) (hbd : ∀ b, (Value.slice A2 n2 c2).ownBlock = some b → b ≠ d) :
    Calls Try.prog 85 #[.pointer (some ⟨d, 0, none⟩), .func (.func 89) #[] #[.pointer (some ⟨B0, 0, none⟩), .pointer (some ⟨B1, 0, none⟩), .pointer (some ⟨B2, 0, none⟩)]] w fun e w' => e = .returned (.int .i64 0) ∧ ∃ v', DiskAt w' d m (wr + 1) (some (k, v')) ∧ OwnB w' base v' (xs ++ ys) ∧ Chg (DS d m (.slice A n c)) w w' ∧ From w (.slice A n c) v' := by
  have hdo : ∀ b, (Value.slice A n c).ownBlock = some b → b ≠ d := by
    intro b hbb e
    obtain ⟨cc, fz, hcc⟩ := OwnB.cells ho b hbb
    rw [e, h.1] at hcc
    cases hcc
  have hdm : m ≠ d := by rintro rfl; have := h.1.symm.trans h.2; unfold mapObj at this; split at this <;> cases this
  have hc : Chg (One d) w (w.setCell ⟨d, 1, none⟩ (.int .i64 ((wr : Int) + 1))) := Chg.put _ _ _ _
  have hD1 : DiskAt (w.setCell ⟨d, 1, none⟩ (.int .i64 ((wr : Int) + 1))) d m (wr + 1) f := by
    refine ⟨?_, hc.heap h.2 hdm⟩
    obtain ⟨hlt, hk⟩ := Array.getElem?_eq_some_iff.1 h.1
    show (w.heap.modify d _)[d]? = _
    rw [Array.getElem?_eq_getElem (by rw [Array.size_modify]; exact hlt), Array.getElem_modify_self, hk]
    simp
  have nb : ∀ {B : Nat} {t : TypeId} {v : Value}, Boxed w B t v → B ≠ d := by
    rintro B t v hB rfl
    have := (show w.heap[B]? = _ from hB).symm.trans h.1
    cases this
  refine disk_raw w d m wr f h hw _ _ (fun w' => ∃ v', DiskAt w' d m (wr + 1) (some (k, v')) ∧ OwnB w' base v' (xs ++ ys) ∧ Chg (DS d m (.slice A n c)) w w' ∧ From w (.slice A n c) v') (enters_of Try.func89 (by kernel_rfl) rfl) ?_
  refine (append_any _ base d m (wr + 1) B0 B1 B2 k A A2 n c n2 c2 xs ys f hf hD1 (hc.heap h0 (nb h0)) (hc.heap h1 (nb h1)) (hc.heap h2 (nb h2)) (ho.chg hc (fun b hb' e => hdo b hb' e)) hl (hb.chg hc (fun b hb' e => hbd b hb' e)) hl2 hn (Nat.le_trans hbase hc.size)).mono ?_
  rintro e w' ⟨rfl, v', h1', h2', h3', h4'⟩
  exact ⟨rfl, v', h1', h2', (hc.mono (S' := DS d m (.slice A n c)) (fun i _ hi => .inl hi)).trans h3' (fun i _ hi => .inr hi), fun b hb => (h4' b hb).imp id (fun e => Nat.le_trans hc.size e)⟩
end Go.Proofs.Ytccphnkdnifpfaa

