/-
  Rep, Open: in one text.
-/
import Derived.Test.YtcomcoolmabmgaaDoorProg
import Derived.WalkKit
import Derived.WalkLawsBesides
import Derived.WalkSpells
import Derived.Lib.Hide
import Derived.Deep.LoopGhost
import Derived.Deep.QuietTactic
import Derived.BigQuiet
import Derived.Deep.AppendSrc
import Derived.ProofKit
import Derived.OpenShut
import Derived.ShutString
import Derived.ChangeOld
import Derived.SizedLaws
namespace Go.Proofs.YtcomcoolmabmgaaDoor
set_option linter.unnecessarySimpa false
open Go.RowKit
set_option linter.unusedVariables false
set_option linter.unusedSimpArgs false

/-- What was there in w is there in w', but for the blocks of S. -/
structure Chg (S : Nat → Prop) (w w' : World) : Prop where
  os : w'.os = w.os
  tape : w'.tape = w.tape
  output : w'.output = w.output
  size : w.heap.size ≤ w'.heap.size
  block : ∀ k, k < w.heap.size → ¬ S k → w'.heap[k]? = w.heap[k]?

def No : Nat → Prop := fun _ => False
def One (g : Nat) : Nat → Prop := fun k => k = g

theorem Chg.refl (S : Nat → Prop) (w : World) : Chg S w w := ⟨rfl, rfl, rfl, Nat.le_refl _, fun _ _ _ => rfl⟩

theorem Chg.trans {S S' : Nat → Prop} {a b c : World} (h : Chg S a b) (k : Chg S' b c) (hs : ∀ i, i < a.heap.size → S' i → S i) : Chg S a c :=
  ⟨k.os.trans h.os, k.tape.trans h.tape, k.output.trans h.output, Nat.le_trans h.size k.size, fun i hi hn =>
    (k.block i (Nat.lt_of_lt_of_le hi h.size) (fun hx => hn (hs i hi hx))).trans (h.block i hi hn)⟩

theorem Chg.no {S : Nat → Prop} {a b c : World} (h : Chg S a b) (k : Chg No b c) : Chg S a c := h.trans k (fun _ _ hx => hx.elim)
theorem Chg.one {S : Nat → Prop} {a b c : World} {g : Nat} (h : Chg S a b) (k : Chg (One g) b c) (hg : a.heap.size ≤ g ∨ S g) : Chg S a c :=
  h.trans k (fun i hi hx => by have : i = g := hx; subst this; rcases hg with h | h; omega; exact h)

theorem Chg.mono {S S' : Nat → Prop} {a b : World} (h : Chg S a b) (hs : ∀ i, i < a.heap.size → S i → S' i) : Chg S' a b :=
  ⟨h.os, h.tape, h.output, h.size, fun i hi hn => h.block i hi (fun hx => hn (hs i hi hx))⟩

theorem Chg.drew {S : Nat → Prop} {a b : World} (h : Chg S a b) : Chg S a b.drew := ⟨h.os, h.tape, h.output, h.size, h.block⟩
theorem Chg.drewN {S : Nat → Prop} {a b : World} (h : Chg S a b) (n : Nat) : Chg S a (b.drewN n) := ⟨h.os, h.tape, h.output, h.size, h.block⟩
theorem Chg.alloc {S : Nat → Prop} {a b : World} (h : Chg S a b) (o : Obj) : Chg S a (b.alloc o) :=
  h.no ⟨rfl, rfl, rfl, by simp, fun k hk _ => Below.heap_alloc _ _ _ hk⟩
theorem Chg.setCell {S : Nat → Prop} {a b : World} (h : Chg S a b) {p : Addr} (hp : a.heap.size ≤ p.block ∨ S p.block) (u : Value) : Chg S a (b.setCell p u) :=
  h.one (g := p.block) ⟨rfl, rfl, rfl, by simp, fun k _ hn => Below.heap_setCell _ _ _ _ hn⟩ hp
theorem Chg.put (w : World) (g o : Nat) (u : Value) : Chg (One g) w (w.setCell ⟨g, o, none⟩ u) := (Chg.refl (One g) w).setCell (p := ⟨g, o, none⟩) (.inr (Eq.refl g)) u
theorem Chg.grown {S : Nat → Prop} {a b c : World} {row : Option Nat} (h : Chg S a b) (hg : b.grownBy c row) (hr : ∀ k, row = some k → a.heap.size ≤ k ∨ S k) : Chg S a c :=
  h.trans (S' := fun k => row = some k) ⟨hg.os, hg.tape, hg.output, hg.size, fun k hk hn => hg.block k hk (fun e => hn e.symm)⟩
    (fun i hi hx => by rcases hr i hx with h | h; omega; exact h)
theorem Chg.ofGrown {S : Nat → Prop} {w w' : World} {row : Option Nat} (hg : w.grownBy w' row) (hr : ∀ k, row = some k → S k) : Chg S w w' :=
  ⟨hg.os, hg.tape, hg.output, hg.size, fun k hk hn => hg.block k hk (fun e => hn (hr k e.symm))⟩
theorem Chg.below {w w' : World} (h : Chg No w w') : Below w.heap.size w w' := ⟨h.os, h.tape, h.output, h.size, fun k hk => h.block k hk (fun x => x)⟩
theorem Chg.ofBelow {w w' : World} (h : Below w.heap.size w w') : Chg No w w' := ⟨h.os, h.tape, h.output, h.size, fun k hk _ => h.block k hk⟩
theorem Chg.cell {S : Nat → Prop} {w w' : World} (h : Chg S w w') {p : Addr} {u : Value} (hc : w.cell? p = some u) (hs : ¬ S p.block) : w'.cell? p = some u :=
  (World.cell?_of_block (h.block p.block (World.block_lt_of_cell? w p hc) hs)).trans hc
theorem Chg.heap {S : Nat → Prop} {w w' : World} (h : Chg S w w') {g : Nat} {o : Obj} (hc : w.heap[g]? = some o) (hs : ¬ S g) : w'.heap[g]? = some o :=
  (h.block g (by rcases Nat.lt_or_ge g w.heap.size with h | h; exact h; simp [Array.getElem?_eq_none h] at hc) hs).trans hc

/-- A slice's value of n elements, whose cells are cs. -/
def Holds (w : World) (v : Value) (n : Nat) (cs : List Value) : Prop :=
  ∃ A c, v = .slice A n c ∧ n ≤ c ∧ c ≤ maxLen ∧ (0 < cs.length → ∃ b o, A = some ⟨b, o, none⟩ ∧ ∀ j u, cs[j]? = some u → w.cell? ⟨b, o + j, none⟩ = some u)

theorem Holds.nil (w : World) : Holds w (.slice none 0 0) 0 [] := ⟨none, 0, rfl, Nat.le_refl _, Nat.zero_le _, by simp⟩

theorem Holds.chg {S : Nat → Prop} {w w' : World} {v : Value} {n : Nat} {cs : List Value} (h : Holds w v n cs) (hc : Chg S w w') (hs : ∀ b, v.ownBlock = some b → ¬ S b) : Holds w' v n cs := by
  obtain ⟨A, c, rfl, hn, hm, hx⟩ := h
  refine ⟨A, c, rfl, hn, hm, fun hl => ?_⟩
  obtain ⟨b, o, rfl, hcell⟩ := hx hl
  exact ⟨b, o, rfl, fun j u hj => hc.cell (hcell j u hj) (hs b rfl)⟩
theorem Holds.no {w w' : World} {v : Value} {n : Nat} {cs : List Value} (h : Holds w v n cs) (hc : Chg No w w') : Holds w' v n cs := h.chg hc (fun _ _ hx => hx)

theorem Holds.ofOwn {w : World} {base : Nat} {e : TypeId} {size : Nat} {v : Value} {n : Nat} {xs : List Value} (h : w.ownsRow base e size v n xs) : Holds w v n xs := by
  obtain ⟨hl, h2⟩ := h
  rcases h2 with ⟨rfl, rfl⟩ | ⟨g, cap, cur, rfl, hg, hh, hn, hm, hcs, ht⟩
  · have : xs = [] := List.eq_nil_of_length_eq_zero (by simpa using hl)
    subst this; exact Holds.nil w
  · refine ⟨_, _, rfl, hn, hm, fun _ => ⟨g, 0, rfl, fun j u hj => ?_⟩⟩
    simp only [World.cell?, hh, Nat.zero_add]
    rw [← ht, List.getElem?_take] at hj
    split at hj
    · simpa using hj
    · cases hj

/-- A piece of a slice: from k on. -/
theorem Holds.drop {w : World} {A : Option Addr} {n c k : Nat} {size : Nat} {cs : List Value} (h : Holds w (.slice A n c) n cs) (hk : k ≤ n) (hs : 0 < size) (hl : cs.length = n * size) :
    Holds w (.slice (if c = k then A else A.map (·.add (k * size))) (n - k) (c - k)) (n - k) (cs.drop (k * size)) := by
  obtain ⟨A', c', he, hn, hm, hx⟩ := h
  simp only [Value.slice.injEq, true_and] at he
  obtain ⟨rfl, rfl⟩ := he
  refine ⟨_, _, rfl, by omega, by omega, fun hp => ?_⟩
  have hkn : k < n := by
    rcases Nat.lt_or_ge k n with h | h
    · exact h
    · have : k = n := by omega
      subst this; simp [hl] at hp
  have hpos : 0 < cs.length := by rw [hl]; exact Nat.mul_pos (by omega) hs
  obtain ⟨b, o, rfl, hcell⟩ := hx hpos
  rw [if_neg (by omega)]
  refine ⟨b, o + k * size, ?_, fun j u hj => ?_⟩
  · simp only [Option.map_some, Addr.add]
    split
    · rename_i h0; rw [h0]; rfl
    · rfl
  · rw [List.getElem?_drop] at hj
    have := hcell _ _ hj
    rwa [Nat.add_assoc]

/-- A piece of a slice: up to k, its capacity m. -/
theorem Holds.take {w : World} {A : Option Addr} {n c k m : Nat} {size : Nat} {cs : List Value} (h : Holds w (.slice A n c) n cs) (hk : k ≤ n) (hkm : k ≤ m) (hmc : m ≤ c) (hl : cs.length = n * size) :
    Holds w (.slice A k m) k (cs.take (k * size)) := by
  obtain ⟨A', c', he, hn, hm, hx⟩ := h
  simp only [Value.slice.injEq, true_and] at he
  obtain ⟨rfl, rfl⟩ := he
  refine ⟨_, _, rfl, by omega, by omega, fun hp => ?_⟩
  have hpos : 0 < cs.length := by
    rw [List.length_take] at hp; omega
  obtain ⟨b, o, rfl, hcell⟩ := hx hpos
  refine ⟨b, o, rfl, fun j u hj => ?_⟩
  rw [List.getElem?_take] at hj
  split at hj
  · exact hcell _ _ hj
  · cases hj

section append
variable {P : Program} (w : World)

theorem ownsRow_first {base : Nat} {e : TypeId} {size : Nat} {v : Value} {n : Nat} {xs : List Value} (h : w.ownsRow base e size v n xs) :
    ∃ A c, v = .slice A n c ∧ (Builtin.firstCells size n (.slice A n c)).run P w.drew = .ok xs.toArray w.drew := by
  have hcells := @World.ownsRow.cells w base e size v n xs h
  obtain ⟨hl, h2⟩ := h
  rcases h2 with ⟨rfl, rfl⟩ | ⟨g, cap, cur, rfl, hbg, hg, hnc, hcm, hcs, htake⟩
  · have hx : xs = [] := List.eq_nil_of_length_eq_zero (by simpa using hl)
    subst hx
    exact ⟨none, 0, rfl, run_firstCells_none w.drew size 0 0 0⟩
  · exact ⟨_, _, rfl, run_firstCells_some w.drew size n ⟨g, 0, none⟩ n cap xs hl (fun j u hj => by simpa using hcells (g := g) rfl j u hj)⟩

/-- append of whatever source onto a row of the call's own. -/
theorem run_append_own_src (base : Nat) (t tx ty e : TypeId) (i : TypeInfo) (z : Value) (size bytes : Nat) (ht : P.underlying t = some (.slice e)) (hi : P.info? e = some i) (hz : i.zero = some z)
    (hsize : i.size = size) (hby : i.bytes = bytes) (hzs : z.cells.size = size) (hsz : 0 < size)
    (v : Value) (n : Nat) (xs : List Value) (hown : w.ownsRow base e size v n xs)
    (x : Value) (m : Nat) (news : List Value) (hs : Src P size tx x m news w)
    (hbytes : (n + m) * bytes ≤ 140737488355328) (h63 : n + m ≤ maxLen) (hbase : base ≤ w.heap.size) :
    ∃ v' w', (Builtin.append_ #[t, tx] ty #[v, x]).run P w = .ok v' w' ∧ w'.ownsRow base e size v' (n + m) (xs ++ news) ∧ w.grownBy w' v.ownBlock := by
  subst hsize
  subst hby
  have hsmall : n + m ≤ 9223372036854775807 := by simp only [maxLen] at h63; omega
  have hl := hs.newsLen
  have hlen : (xs ++ news).length = (n + m) * i.size := by rw [List.length_append, hown.1, hl, Nat.add_mul]
  obtain ⟨A, c, hv, hfirst⟩ := ownsRow_first (P := P) w hown
  subst hv
  by_cases hroom : n + m ≤ c
  · rcases hown.2 with ⟨he, rfl⟩ | ⟨g, cap, cur, he, hbg, hg, hnc, hcm, hcs, htake⟩
    · simp only [Value.slice.injEq] at he
      obtain ⟨rfl, -, rfl⟩ := he
      obtain rfl : m = 0 := by omega
      have hn : news = [] := List.eq_nil_of_length_eq_zero (by simpa using hl)
      subst hn
      have hx : xs = [] := List.eq_nil_of_length_eq_zero (by simpa using hown.1)
      subst hx
      refine ⟨.slice none 0 0, w, ?_, World.ownsRow_nil w base e i.size, ⟨rfl, rfl, rfl, Nat.le_refl _, fun _ _ _ => rfl⟩⟩
      rcases hs.kind with ⟨e', hk⟩ | hk <;> simp [Builtin.append_, run_underlying ht, run_underlying hk, sizeOf, typeInfo, hi, hs.len, hs.cells]
    · simp only [Value.slice.injEq, true_and] at he
      obtain ⟨rfl, rfl⟩ := he
      have hfit : n * i.size + news.length ≤ cur.size := by rw [hl, hcs, ← Nat.add_mul]; exact Nat.mul_le_mul_right _ hroom
      have hst := run_storeCells_at P g (n * i.size) e news 0 cur w hg (by simpa using hfit) hs.one
      simp only [Nat.add_zero] at hst
      refine ⟨.slice (some ⟨g, 0, none⟩) (n + m) c, w.setRow g (cur.toList.take (n * i.size) ++ news ++ cur.toList.drop (n * i.size + news.length)).toArray, ?_, ?_, ?_⟩
      · rcases hs.kind with ⟨e', hk⟩ | hk <;> simp [Builtin.append_, run_underlying ht, run_underlying hk, sizeOf, typeInfo, hi, hs.len, hroom, hs.cells, Addr.add_lit, hst]
      · refine ⟨hlen, .inr ⟨g, c, _, rfl, hbg, setRow_heap w g cur _ e _ hg, hroom, hcm, ?_, ?_⟩⟩
        · simp only [List.size_toArray, List.length_append, List.length_take, List.length_drop, Array.length_toList]
          have hms : (n + m) * i.size ≤ c * i.size := Nat.mul_le_mul_right _ hroom
          rw [Nat.add_mul] at hms
          omega
        · rw [htake, ← hlen]
          exact List.take_left
      · exact ⟨rfl, rfl, rfl, by simp [World.setRow], fun k _ hk => setRow_other w g k _ (fun e => hk (by simp [Value.ownBlock, e]))⟩
  · refine ⟨_, _, run_append_grow_src (P := P) w t tx ty e i z ht hi hz A n c xs hfirst x m news hs (by omega) (by omega) (growslice_fits (by omega) hbytes), ?_, ?_⟩
    · have hge := grownCap_ge w (n + m) c e
      have hcm : grownCap w (n + m) c e ≤ maxLen := grownCap_le_maxLen w (n + m) c e h63
      refine ⟨hlen, .inr ⟨w.heap.size, _, _, rfl, hbase, heap_alloc_new w.drew _, hge, hcm, ?_, ?_⟩⟩
      · simp only [Array.size_append, List.size_toArray, size_zeroCells, hzs, hlen, ← Nat.add_mul]
        congr 1
        omega
      · simp only [Array.toList_append]
        rw [← hlen]
        exact List.take_left
    · exact ⟨rfl, rfl, rfl, by simp, fun k hk _ => heap_alloc_old w.drew _ hk⟩

theorem Src.ofHolds {size : Nat} {tx e' : TypeId} (hk : P.underlying tx = some (.slice e')) {x : Value} {m : Nat} {cs : List Value} (h : Holds w x m cs) (hl : cs.length = m * size) (hs : 0 < size) (h1 : ∀ u ∈ cs, u.oneCell' = true) : Src P size tx x m cs w := by
  obtain ⟨A, c, rfl, hn, hm, hx⟩ := h
  by_cases hp : 0 < cs.length
  · obtain ⟨b, o, rfl, hcell⟩ := hx hp
    exact Src.ofSlice w hk ⟨b, o, none⟩ m c cs hl (fun j u hj => by rw [Addr.add_lit]; exact hcell j u hj) h1
  · have : cs = [] := List.eq_nil_of_length_eq_zero (by omega)
    subst this
    have hm0 : m = 0 := by
      rcases Nat.eq_zero_or_pos m with h | h
      · exact h
      · have := Nat.mul_pos h hs; simp at hl; omega
    subst hm0
    cases A with
    | none => exact Src.ofNil w hk c
    | some a => exact Src.ofSlice w hk a 0 c [] (by simp) (fun j u hj => by simp at hj) (fun u hu => by cases hu)

theorem wpList_app {ops : Array Oper} {rest : List Oper} {o : Oper} {a : Act} {Q : Exit → Act → World → Prop} (hgd : o.guard = none) (s x : Operand) (t tx : TypeId)
    (ho : o.op = .call { callee := .builtin .append, args := #[s, x], argTypes := #[t, tx] })
    (base : Nat) (e : TypeId) (z : Value) (size bytes : Nat) (hinfo : (P.info? e).map (fun i => (i.zero, i.size, i.bytes)) = some (some z, size, bytes)) (ht : P.underlying t = some (.slice e))
    (hzs : z.cells.size = size) (hsz : 0 < size)
    (v xv : Value) (n m : Nat) (xs news : List Value) (hs : a.eval s = v) (hx : a.eval x = xv)
    (hown : w.ownsRow base e size v n xs) (hsrc : Src P size tx xv m news w)
    (hbytes : (n + m) * bytes ≤ 140737488355328) (h63 : n + m ≤ maxLen) (hbase : base ≤ w.heap.size)
    (h : ∀ v' w', w'.ownsRow base e size v' (n + m) (xs ++ news) → w.grownBy w' v.ownBlock → wpList P ops Q rest (a.put o.dst v') w') : wpList P ops Q (o :: rest) a w := by
  obtain ⟨i, hi, hz0, hz1, hz2⟩ := info_parts hinfo
  refine wpList_plain hgd fun _ hK => ?_
  obtain ⟨v', w', hr, h2, h3⟩ := run_append_own_src (P := P) w base t tx o.type e i z size bytes ht hi hz0 hz1 hz2 hzs hsz v n xs hown xv m news hsrc hbytes h63 hbase
  unfold Oper.wp execOp
  simp only [ho, resolve, invoke, builtin, Sem.run_bind, Sem.run_pure, Result.andThen_ok, List.map_toArray, List.map_cons, List.map_nil, hs, hx, hr]
  exact hK _ _ (h v' w' h2 h3)
end append

/-- Bytes as cells. -/
def u8s (xs : List UInt8) : List Value := xs.map fun c => .int .u8 (c.toNat : Int)
@[simp] theorem length_u8s (xs : List UInt8) : (u8s xs).length = xs.length := by simp [u8s]
theorem u8s_get (xs : List UInt8) (j : Nat) (h : j < xs.length) : (u8s xs)[j]? = some (.int .u8 ((xs[j]).toNat : Int)) := by simp [u8s, h]
theorem u8s_take (xs : List UInt8) (k : Nat) : (u8s xs).take k = u8s (xs.take k) := by simp [u8s, List.map_take]
theorem u8s_drop (xs : List UInt8) (k : Nat) : (u8s xs).drop k = u8s (xs.drop k) := by simp [u8s, List.map_drop]
theorem u8s_append (xs ys : List UInt8) : u8s (xs ++ ys) = u8s xs ++ u8s ys := by simp [u8s]
theorem u8s_snoc (xs : List UInt8) (c : UInt8) (n : Int) (h : (c.toNat : Int) = n) : u8s xs ++ [.int .u8 n] = u8s (xs ++ [c]) := by subst h; simp [u8s]
theorem u8s_one (xs : List UInt8) : ∀ u ∈ u8s xs, u.oneCell' = true := by
  intro u hu
  simp only [u8s, List.mem_map] at hu
  obtain ⟨_, _, rfl⟩ := hu
  rfl

/-- A slice of bytes. -/
def Bytes (w : World) (v : Value) (xs : List UInt8) : Prop := Holds w v xs.length (u8s xs)
theorem Bytes.chg {S : Nat → Prop} {w w' : World} {v : Value} {xs : List UInt8} (h : Bytes w v xs) (hc : Chg S w w') (hs : ∀ b, v.ownBlock = some b → ¬ S b) : Bytes w' v xs := Holds.chg h hc hs
theorem Bytes.no {w w' : World} {v : Value} {xs : List UInt8} (h : Bytes w v xs) (hc : Chg No w w') : Bytes w' v xs := Holds.no h hc
theorem Bytes.nil (w : World) : Bytes w (.slice none 0 0) [] := Holds.nil w
theorem Bytes.form {w : World} {v : Value} {xs : List UInt8} (h : Bytes w v xs) : ∃ A c, v = .slice A xs.length c ∧ xs.length ≤ c ∧ c ≤ maxLen := by
  obtain ⟨A, c, h1, h2, h3, _⟩ := h; exact ⟨A, c, h1, h2, h3⟩
theorem Bytes.addr {w : World} {A : Option Addr} {n c : Nat} {xs : List UInt8} (h : Bytes w (.slice A n c) xs) (hp : 0 < xs.length) :
    ∃ b o, A = some ⟨b, o, none⟩ ∧ ∀ j (hj : j < xs.length), w.cell? ⟨b, o + j, none⟩ = some (.int .u8 ((xs[j]).toNat : Int)) := by
  obtain ⟨A', c', he, hn, hm, hx⟩ := h
  simp only [Value.slice.injEq] at he
  obtain ⟨rfl, rfl, rfl⟩ := he
  obtain ⟨b, o, rfl, hc⟩ := hx (by simpa using hp)
  exact ⟨b, o, rfl, fun j hj => hc j _ (u8s_get xs j hj)⟩
theorem Bytes.drop {w : World} {A : Option Addr} {c k : Nat} {xs : List UInt8} (h : Bytes w (.slice A xs.length c) xs) (hk : k ≤ xs.length) :
    Bytes w (.slice (if c = k then A else A.map (·.add k)) (xs.length - k) (c - k)) (xs.drop k) := by
  have := Holds.drop (size := 1) h hk (by decide) (by simp)
  simpa [Bytes, u8s_drop] using this
theorem Bytes.take {w : World} {A : Option Addr} {c k m : Nat} {xs : List UInt8} (h : Bytes w (.slice A xs.length c) xs) (hk : k ≤ xs.length) (hkm : k ≤ m) (hmc : m ≤ c) :
    Bytes w (.slice A k m) (xs.take k) := by
  have := Holds.take (size := 1) h hk hkm hmc (by simp)
  simpa [Bytes, u8s_take, Nat.min_eq_left hk] using this

theorem Src.ofBytes {P : Program} {w : World} {tx e' : TypeId} (hk : P.underlying tx = some (.slice e')) {v : Value} {n : Nat} {xs : List UInt8} (h : Bytes w v xs) (hl : xs.length = n) : Src P 1 tx v n (u8s xs) w :=
  Src.ofHolds w hk (by subst hl; exact h) (by simp [hl]) (by decide) (u8s_one xs)
theorem Src.ofText {P : Program} {w : World} {tx : TypeId} (hk : P.underlying tx = some .string) (s : ByteArray) : Src P 1 tx (.string s) s.size (u8s s.data.toList) w := Src.ofString w hk s
theorem infoU8 : (Tryd.prog.info? 5).map (fun i => (i.zero, i.size, i.bytes)) = some (some (.int .u8 0), 1, 1) := by kernel_rfl
/-- A slice of bytes of the call's own, from block base on. -/
def OwnB (w : World) (base : Nat) (v : Value) (xs : List UInt8) : Prop := w.ownsRow base 5 1 v xs.length (u8s xs)
theorem OwnB.of {w : World} {base n : Nat} {v : Value} {xs : List UInt8} {cs : List Value} (h : w.ownsRow base 5 1 v n cs) (hc : cs = u8s xs) : OwnB w base v xs := by
  subst hc
  have hn : n = xs.length := by have := h.1; simpa using this.symm
  subst hn
  exact h
theorem Bytes.ofOwn {w : World} {base : Nat} {e : TypeId} {v : Value} {n : Nat} {xs : List UInt8} (h : w.ownsRow base e 1 v n (u8s xs)) : Bytes w v xs := by
  have hn : n = xs.length := by have := h.1; simpa using this.symm
  subst hn
  exact Holds.ofOwn h
theorem OwnB.bytes {w : World} {base : Nat} {v : Value} {xs : List UInt8} (h : OwnB w base v xs) : Bytes w v xs := Bytes.ofOwn h
theorem OwnB.mono {w : World} {base base' : Nat} {v : Value} {xs : List UInt8} (h : OwnB w base v xs) (hb : base' ≤ base) : OwnB w base' v xs := by
  obtain ⟨h1, h2⟩ := h
  refine ⟨h1, h2.imp id ?_⟩
  rintro ⟨g, cap, cur, hv, hg, r⟩
  exact ⟨g, cap, cur, hv, Nat.le_trans hb hg, r⟩
theorem OwnB.block {w : World} {base : Nat} {v : Value} {xs : List UInt8} (h : OwnB w base v xs) : ∀ k, v.ownBlock = some k → base ≤ k ∧ k < w.heap.size := World.ownsRow.lt h
theorem OwnB.alloc {w : World} {base : Nat} {v : Value} {xs : List UInt8} (h : OwnB w base v xs) (o : Obj) : OwnB (w.alloc o) base v xs := World.ownsRow.alloc h o
theorem OwnB.chg {S : Nat → Prop} {w w' : World} {base : Nat} {v : Value} {xs : List UInt8} (h : OwnB w base v xs) (hc : Chg S w w') (hs : ∀ b, v.ownBlock = some b → ¬ S b) : OwnB w' base v xs := by
  obtain ⟨h1, h2⟩ := h
  refine ⟨h1, h2.imp id ?_⟩
  rintro ⟨g, cap, cur, rfl, hg, hh, r⟩
  exact ⟨g, cap, cur, rfl, hg, hc.heap hh (hs g rfl), r⟩
/-- A string of bytes. -/
def mkS (l : List UInt8) : ByteArray := ⟨l.toArray⟩
@[simp] theorem mkS_list (l : List UInt8) : (mkS l).data.toList = l := by simp [mkS]
theorem mkS_self (s : ByteArray) : mkS s.data.toList = s := by unfold mkS; rw [Array.toArray_toList]
theorem mkS_size (l : List UInt8) : (mkS l).size = l.length := by simp [mkS, ByteArray.size]
theorem mkS_inj {a b : List UInt8} (h : mkS a = mkS b) : a = b := by have := congrArg (fun s => s.data.toList) h; rwa [mkS_list, mkS_list] at this
theorem mkS_nil : mkS [] = ⟨#[]⟩ := rfl
theorem size_list (s : ByteArray) : s.data.toList.length = s.size := by rw [Array.length_toList]; rfl

theorem Bytes.text {P : Program} {w : World} {A : Option Addr} {n c : Nat} {xs : List UInt8} (h : Bytes w (.slice A n c) xs) {src dst e : TypeId} (hs : P.underlying src = some (.slice e)) (he : P.underlying e = some (.int .u8)) (hd : P.underlying dst = some .string) :
    (convert src dst (.slice A n c)).run P w = .ok (.string (mkS xs)) w := by
  have hl : xs.length = n := by
    obtain ⟨A', c', he, _⟩ := h
    simp only [Value.slice.injEq] at he
    exact he.2.1.symm
  subst hl
  cases A with
  | some a =>
    refine run_convert_bytes_back w src dst e a c xs hs he hd (fun j hj => ?_)
    obtain ⟨b, o, ha, hc⟩ := h.addr (by omega)
    cases ha
    rw [Addr.add_lit]
    exact hc j hj
  | none =>
    have hn : xs = [] := by
      rcases Nat.eq_zero_or_pos xs.length with h0 | h0
      · exact List.eq_nil_of_length_eq_zero h0
      · obtain ⟨b, o, he, _⟩ := h.addr h0
        cases he
    subst hn
    rw [run_convert_bytes_nil w src e hs he _ _ dst hd]
    rfl
theorem Src.one {P : Program} {w : World} {tx e' t : TypeId} (hk : P.underlying tx = some (.slice e')) (u : Value) (h1 : u.oneCell' = true) :
    Src P 1 tx (.slice (some ⟨w.heap.size, 0, none⟩) 1 1) 1 [u] (w.alloc (.cells #[u] t)) :=
  Src.ofSlice _ hk _ _ _ [u] (by simp) (fun j v hj => by
    rw [Addr.add_lit, Nat.zero_add, World.cell?_alloc_new]
    cases j with
    | zero => simpa using hj
    | succ j => simp at hj) (fun v hv => by simp at hv; subst hv; exact h1)
theorem foldl_take {α β : Type} (f : β → α → β) (a : β) (xs : List α) (k : Nat) (hk : k < xs.length) : (xs.take (k + 1)).foldl f a = f ((xs.take k).foldl f a) xs[k] := by
  rw [List.take_succ_eq_append_getElem hk, List.foldl_append]; rfl
/-- A row of n bytes of which the last k are told by f. -/
def FillArr (t : TypeId) (w : World) (g n : Nat) (f : Nat → UInt8) (k : Nat) : Prop :=
  ∃ arr : Array Value, w.heap[g]? = some (.cells arr t (0, 0)) ∧ arr.size = n ∧ ∀ j, j < n → n - k ≤ j → arr[j]? = some (.int .u8 ((f j).toNat : Int))
theorem FillArr.start {t : TypeId} {w : World} {n : Nat} {f : Nat → UInt8} (arr : Array Value) (h : arr.size = n) : FillArr t (w.alloc (.cells arr t)) w.heap.size n f 0 :=
  ⟨_, heap_alloc_new w _, h, fun j h1 h2 => by omega⟩
theorem FillArr.cell {t : TypeId} {w : World} {g n k : Nat} {f : Nat → UInt8} (h : FillArr t w g n f k) (i : Nat) (hi : i < n) : ∃ u, w.cell? ⟨g, i, none⟩ = some u := by
  obtain ⟨arr, h1, h2, _⟩ := h
  have : i < arr.size := by omega
  exact ⟨arr[i], by simp [World.cell?, h1, this]⟩
theorem FillArr.frozen {t : TypeId} {w : World} {g n k : Nat} {f : Nat → UInt8} (h : FillArr t w g n f k) (i : Nat) : w.frozen? ⟨g, i, none⟩ = false := by
  obtain ⟨arr, h1, h2, _⟩ := h
  simp [World.frozen?, h1]
theorem FillArr.store {t : TypeId} {w : World} {g n k : Nat} {f : Nat → UInt8} (h : FillArr t w g n f k) (hk : k < n) (i : Nat) (hi : i = n - 1 - k) (v : Int) (hv : v = ((f i).toNat : Int)) : FillArr t (w.setCell ⟨g, i, none⟩ (.int .u8 v)) g n f (k + 1) := by
  subst hi
  obtain ⟨arr, h1, h2, h3⟩ := h
  refine ⟨arr.setIfInBounds (n - 1 - k) (.int .u8 v), by unfold World.setCell; simp [Array.getElem?_modify, h1], by simpa using h2, fun j hj hj2 => ?_⟩
  rw [Array.getElem?_setIfInBounds]
  by_cases he : n - 1 - k = j
  · subst he
    rw [if_pos rfl, if_pos (by omega), hv]
  · rw [if_neg he]; exact h3 j hj (by omega)
theorem FillArr.bytes {t : TypeId} {w : World} {g n : Nat} {f : Nat → UInt8} (h : FillArr t w g n f n) (hn : n ≤ maxLen) : Bytes w (.slice (some ⟨g, 0, none⟩) n n) ((List.range n).map f) := by
  obtain ⟨arr, h1, h2, h3⟩ := h
  have hl : ((List.range n).map f).length = n := by simp
  refine ⟨_, _, by rw [hl], by rw [hl]; exact Nat.le_refl _, hn, fun _ => ⟨g, 0, rfl, fun j u hj => ?_⟩⟩
  have hjn : j < n := by
    have := (List.getElem?_eq_some_iff.1 hj).1
    simp only [length_u8s, hl] at this; exact this
  rw [u8s_get _ _ (by rw [hl]; exact hjn)] at hj
  have := h3 j hjn (by omega)
  simp only [World.cell?, h1, Nat.zero_add]
  simp only [Option.isSome_none, Bool.false_eq_true, if_false]
  rw [this, ← hj]
  simp
theorem FillArr.own {w : World} {g n base : Nat} {f : Nat → UInt8} (h : FillArr 5 w g n f n) (hn : n ≤ maxLen) (hb : base ≤ g) : OwnB w base (.slice (some ⟨g, 0, none⟩) n n) ((List.range n).map f) := by
  obtain ⟨arr, h1, h2, h3⟩ := h
  have hl : ((List.range n).map f).length = n := by simp
  refine ⟨by simp, .inr ⟨g, n, arr, by rw [hl], hb, h1, by rw [hl]; exact Nat.le_refl _, hn, by simpa using h2, ?_⟩⟩
  rw [hl, Nat.mul_one]
  apply List.ext_getElem?
  intro j
  rw [List.getElem?_take]
  by_cases hj : j < n
  · rw [if_pos hj, u8s_get _ _ (by rw [hl]; exact hj)]
    have := h3 j hj (by omega)
    simp only [Array.getElem?_toList]
    rw [this]
    simp
  · rw [if_neg hj, List.getElem?_eq_none (by rw [length_u8s, hl]; omega)]
theorem FillArr.chg {S : Nat → Prop} {t : TypeId} {w w' : World} {g n k : Nat} {f : Nat → UInt8} (h : FillArr t w g n f k) (hc : Chg S w w') (hs : ¬ S g) : FillArr t w' g n f k := by
  obtain ⟨arr, h1, h2, h3⟩ := h
  exact ⟨arr, hc.heap h1 hs, h2, h3⟩
theorem OwnB.open {w : World} {base : Nat} {v : Value} {xs : List UInt8} (h : OwnB w base v xs) (hp : 0 < xs.length) :
    ∃ g cap, v = .slice (some ⟨g, 0, none⟩) xs.length cap ∧ base ≤ g ∧ g < w.heap.size ∧ xs.length ≤ cap ∧ cap ≤ maxLen ∧ (∀ i (hi : i < xs.length), w.cell? ⟨g, i, none⟩ = some (.int .u8 ((xs[i]).toNat : Int))) ∧ ∀ i, w.frozen? ⟨g, i, none⟩ = false := by
  have hb := h.bytes
  obtain ⟨h1, h2⟩ := h
  rcases h2 with ⟨rfl, h0⟩ | ⟨g, cap, cur, rfl, hg, hh, hn, hm, hcs, ht⟩
  · omega
  · refine ⟨g, cap, rfl, hg, ?_, hn, hm, fun i hi => ?_, fun i => by simp [World.frozen?, hh]⟩
    · rcases Nat.lt_or_ge g w.heap.size with h' | h'
      · exact h'
      · simp [Array.getElem?_eq_none h'] at hh
    · obtain ⟨b, o, he, hc⟩ := hb.addr hp
      cases he
      have := hc i hi
      simpa using this
theorem OwnB.set {w : World} {base : Nat} {xs : List UInt8} {g cap : Nat} (h : OwnB w base (.slice (some ⟨g, 0, none⟩) xs.length cap) xs) (i : Nat) (hi : i < xs.length) (c : UInt8) (n : Int) (hn : n = (c.toNat : Int)) :
    OwnB (w.setCell ⟨g, i, none⟩ (.int .u8 n)) base (.slice (some ⟨g, 0, none⟩) xs.length cap) (xs.set i c) := by
  subst hn
  obtain ⟨h1, h2⟩ := h
  rcases h2 with ⟨he, h0⟩ | ⟨g', cap', cur, he, hg, hh, hnn, hm, hcs, ht⟩
  · omega
  · simp only [Value.slice.injEq, Option.some.injEq, Addr.mk.injEq, and_true, true_and] at he
    obtain ⟨rfl, rfl⟩ := he
    refine ⟨by simp, .inr ⟨g, cap, cur.setIfInBounds i (.int .u8 (c.toNat : Int)), by rw [List.length_set], hg, ?_, by rw [List.length_set]; exact hnn, hm, by simpa using hcs, ?_⟩⟩
    · unfold World.setCell
      simp [Array.getElem?_modify, hh]
    · rw [List.length_set, Array.toList_setIfInBounds, List.take_set, ht]
      simp [u8s, List.map_set]
end Go.Proofs.YtcomcoolmabmgaaDoor

namespace Go.Proofs.YtcomcoolmabmgaaDoor
set_option linter.unnecessarySimpa false
open Go.ChangeShapes Go.WideShapes Go.ChangeAt Go.RowKit
open Go.ChangeMaps (open_string shut_string)
set_option linter.unusedVariables false
set_option linter.unusedSimpArgs false

theorem own : ownKnob Tryd.prog.godebug = none := by kernel_rfl
theorem laidOut : laidOutB Tryd.prog = true := by kernel_rfl

theorem open_bytes {H : Type} {enc : TypeId × Value → H} {P : Program} {W : World} {t e : TypeId} {v : Value} {d : DataW H} {p : List MemPlace} {r : Reach} {b0 : Nat}
    (ht : P.underlying t = some (.slice e)) (he : P.underlying e = some (.int .u8)) (hc : P.cellsOf e = 1) (hval : Value.okWide P W r b0 t v)
    (h : DataW.Trod enc P W 0 (fun _ => true) true t v d p) :
    ∃ A n c xs, v = .slice A n c ∧ Bytes W (.slice A n c) xs ∧ xs.length = n ∧ (n = 0 ∨ ∃ elems spare, d = .slice elems spare ∧ elems.length = n) := by
  obtain ⟨a0, len0, cap0, rfl⟩ := okWide_slice ht hval
  obtain ⟨fuel, hf⟩ := h
  rcases open_ints ht he hc hf with ⟨hcs, _⟩ | ⟨x, l, c, zs, hcs, _, hl, hm, hz, hx, hcell, hwz⟩
  · simp [Value.cells] at hcs
    obtain ⟨rfl, rfl, rfl⟩ := hcs
    exact ⟨_, _, _, [], rfl, Bytes.nil W, rfl, .inl rfl⟩
  · simp [Value.cells] at hcs
    obtain ⟨rfl, rfl, rfl⟩ := hcs
    simp only [if_true] at hz
    have hzl : (zs.take len0).length = len0 := by rw [List.length_take]; omega
    refine ⟨_, _, _, (zs.take len0).map (fun z => UInt8.ofNat z.toNat), rfl, ?_, by simpa using hzl, .inr ⟨_, _, (Prod.mk.inj hx).1, by rw [lits, List.length_map]; exact hzl⟩⟩
    refine ⟨_, _, by rw [List.length_map, hzl], by rw [List.length_map, hzl]; exact hl, hm, fun hp => ?_⟩
    have hpos : 0 < zs.length := by
      simp only [length_u8s, List.length_map, List.length_take] at hp
      omega
    obtain ⟨b, off, spot⟩ := x
    have hc0 := hcell 0 hpos
    have hspot : spot = none := by simpa [Addr.add] using World.cell?_spot hc0
    subst hspot
    refine ⟨b, off, rfl, fun j u hj => ?_⟩
    have hjl : j < len0 := by
      have := (List.getElem?_eq_some_iff.1 hj).1
      simp only [length_u8s, List.length_map, hzl] at this
      exact this
    have hcj := hcell j (by omega)
    rw [Addr.add_lit] at hcj
    rw [hcj]
    have hzj : zs.getD j 0 ∈ zs := by
      simp only [List.getD, List.getElem?_eq_getElem (show j < zs.length by omega), Option.getD_some]
      exact List.getElem_mem _
    have hw := hwz _ hzj
    have hb : 0 ≤ zs.getD j 0 ∧ zs.getD j 0 ≤ 255 := by simpa [Lit.wf, IntKind.min, IntKind.max, IntKind.signed, IntKind.bits] using hw
    rw [u8s_get _ _ (by rw [List.length_map, hzl]; exact hjl)] at hj
    simp only [List.getElem_map, List.getElem_take] at hj
    rw [← hj]
    have hg : zs[j]'(by omega) = zs.getD j 0 := by simp [List.getD, List.getElem?_eq_getElem (show j < zs.length by omega)]
    rw [hg]
    generalize zs.getD j 0 = z at hb
    congr 2
    rw [UInt8.toNat_ofNat']
    omega

theorem bytes_sized {H : Type} {P : Program} {ts : List TypeId} {ds : List (DataW H)} (h : (DataW.weightsEach P ts ds).all (· ≤ reachBytes) = true) {j n : Nat} {t e : TypeId} {d : DataW H}
    (ht : ts[j]? = some t) (hd : ds[j]? = some d) (hu : P.underlying t = some (.slice e)) (hb : P.bytesOf e = 1) (hn : n = 0 ∨ ∃ elems spare, d = .slice elems spare ∧ elems.length = n) : n ≤ 140737488351232 := by
  rcases hn with rfl | ⟨elems, spare, rfl, rfl⟩
  · omega
  · have := sized_slice h ht hd hu
    rw [hb] at this
    simp only [reachBytes] at this
    omega
theorem text_sized {H : Type} {P : Program} {ts : List TypeId} {ds : List (DataW H)} (h : (DataW.weightsEach P ts ds).all (· ≤ reachBytes) = true) {j : Nat} {t : TypeId} {s : ByteArray}
    (ht : ts[j]? = some t) (hd : ds[j]? = some (.lit (.string s.data.toList))) : s.size ≤ 140737488351232 := by
  have := sized_string h ht hd
  rw [size_list] at this
  simpa [reachBytes] using this
end Go.Proofs.YtcomcoolmabmgaaDoor

