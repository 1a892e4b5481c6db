/- Words for memory: a slice value that leads to known cells; how an argument is opened to them. -/
import Derived.Test.YtfmfjbphflkhiaaGreatDoorRows
import Derived.WalkKit
import Derived.ProofKit
import Derived.OpenShut
import Derived.Deep.Slices
import Derived.Deep.Fields
import Derived.ChangeSame
namespace Go.Proofs.YtfmfjbphflkhiaaGreatDoor
set_option linter.unusedVariables false
set_option linter.unusedSimpArgs false
open Go.RowKit Go.ChangeShapes Go.WideShapes Go.Deep

/-- The slice value v has n elements; its m cells from the first on are f 0, f 1 and so on, in a block below B. -/
def Sl (w : World) (B m : Nat) (v : Value) (n : Nat) (f : Nat → Value) : Prop :=
  ∃ A cap, v = .slice A n cap ∧ n ≤ cap ∧ cap ≤ maxLen ∧ (0 < m → ∃ b o, A = some ⟨b, o, none⟩ ∧ b < B ∧ ∀ j, j < m → w.cell? ⟨b, o + j, none⟩ = some (f j))

theorem Sl.keep {w w' : World} {B m n : Nat} {v : Value} {f : Nat → Value} (h : Sl w B m v n f) (hk : ∀ b o, b < B → w'.cell? ⟨b, o, none⟩ = w.cell? ⟨b, o, none⟩) : Sl w' B m v n f := by
  obtain ⟨A, cap, rfl, h1, h2, h3⟩ := h
  refine ⟨A, cap, rfl, h1, h2, fun hm => ?_⟩
  obtain ⟨b, o, rfl, hb, hc⟩ := h3 hm
  exact ⟨b, o, rfl, hb, fun j hj => (hk b _ hb).trans (hc j hj)⟩
theorem Sl.below {w w' : World} {B m n : Nat} {v : Value} {f : Nat → Value} (h : Sl w B m v n f) (hb : Below B w w') : Sl w' B m v n f := h.keep fun b o hbB => hb.cell (p := ⟨b, o, none⟩) hbB
theorem Sl.mono {w : World} {B B' m n : Nat} {v : Value} {f : Nat → Value} (h : Sl w B m v n f) (hB : B ≤ B') : Sl w B' m v n f := by
  obtain ⟨A, cap, rfl, h1, h2, h3⟩ := h
  refine ⟨A, cap, rfl, h1, h2, fun hm => ?_⟩
  obtain ⟨b, o, rfl, hb, hc⟩ := h3 hm
  exact ⟨b, o, rfl, by omega, hc⟩
theorem Sl.congr {w : World} {B m n : Nat} {v : Value} {f g : Nat → Value} (h : Sl w B m v n f) (hfg : ∀ j, j < m → f j = g j) : Sl w B m v n g := by
  obtain ⟨A, cap, rfl, h1, h2, h3⟩ := h
  refine ⟨A, cap, rfl, h1, h2, fun hm => ?_⟩
  obtain ⟨b, o, rfl, hb, hc⟩ := h3 hm
  exact ⟨b, o, rfl, hb, fun j hj => by rw [hc j hj, hfg j hj]⟩
/-- A slice value of the call's own: it begins a block that nobody else knows (its number is at least base), which is not frozen; its first cells are xs. (Of the room behind them nothing is said: so a clipped slice is one too.) -/
def Own (w : World) (base : Nat) (e : TypeId) (sz : Nat) (v : Value) (n : Nat) (xs : List Value) : Prop :=
  xs.length = n * sz ∧
  ((v = .slice none 0 0 ∧ n = 0) ∨
   ∃ g cap cur, v = .slice (some ⟨g, 0, none⟩) n cap ∧ base ≤ g ∧ w.heap[g]? = some (.cells cur e (0, 0)) ∧ n ≤ cap ∧ cap ≤ maxLen ∧ n * sz ≤ cur.size ∧ cur.toList.take (n * sz) = xs)
theorem Own.of_row {w : World} {base : Nat} {e : TypeId} {sz : Nat} {v : Value} {n : Nat} {xs : List Value} (h : w.ownsRow base e sz v n xs) : Own w base e sz v n xs := by
  refine ⟨h.1, ?_⟩
  rcases h.2 with hn | ⟨g, cap, cur, rfl, hb, hg, hnc, hcm, hcs, ht⟩
  · exact .inl hn
  · exact .inr ⟨g, cap, cur, rfl, hb, hg, hnc, hcm, by rw [hcs]; exact Nat.mul_le_mul_right sz hnc, ht⟩
theorem Own.nil (w : World) (base : Nat) (e : TypeId) (sz : Nat) : Own w base e sz (.slice none 0 0) 0 [] := ⟨by simp, .inl ⟨rfl, rfl⟩⟩
/-- The cells of what is owned, by number. -/
theorem Own.at_ {w : World} {base : Nat} {e : TypeId} {sz : Nat} {v : Value} {n : Nat} {xs : List Value} (h : Own w base e sz v n xs) (hn : 0 < n) :
    ∃ g cap, v = .slice (some ⟨g, 0, none⟩) n cap ∧ n ≤ cap ∧ cap ≤ maxLen ∧ base ≤ g ∧ g < w.heap.size ∧ (∀ j u, xs[j]? = some u → w.cell? ⟨g, j, none⟩ = some u) ∧ ∀ j, w.frozen? ⟨g, j, none⟩ = false := by
  obtain ⟨h1, h2⟩ := h
  rcases h2 with ⟨_, rfl⟩ | ⟨g, cap, cur, rfl, hb, hg, hnc, hcm, hcs, ht⟩
  · omega
  · refine ⟨g, cap, rfl, hnc, hcm, hb, (Array.getElem?_eq_some_iff.1 hg).1, fun j u hj => ?_, fun j => by simp [World.frozen?, hg]⟩
    rw [cell_of_row w g j cur e (0, 0) hg]
    rw [← ht, List.getElem?_take] at hj
    split at hj
    · simpa using hj
    · cases hj
theorem Own.set_ {w : World} {base : Nat} {e : TypeId} {sz : Nat} {g n cap : Nat} {xs : List Value} (h : Own w base e sz (.slice (some ⟨g, 0, none⟩) n cap) n xs) (j : Nat) (hj : j < n * sz) (u : Value) :
    Own (w.setCell ⟨g, j, none⟩ u) base e sz (.slice (some ⟨g, 0, none⟩) n cap) n (xs.set j u) := by
  obtain ⟨h1, h2⟩ := h
  rcases h2 with ⟨hv, _⟩ | ⟨g', cap', cur, hv, hb, hg, hnc, hcm, hcs, ht⟩
  · cases hv
  · injection hv with e1 e2 e3
    injection e1 with e1
    injection e1 with e1
    subst e1; subst e3
    refine ⟨by simpa using h1, .inr ⟨g, cap, cur.set! j u, rfl, hb, ?_, hnc, hcm, by simpa using hcs, ?_⟩⟩
    · simp [World.setCell, Array.getElem?_modify, hg]
    · rw [Array.set!_eq_setIfInBounds, Array.toList_setIfInBounds, List.take_set, ht]
theorem Own.lt {w : World} {base : Nat} {e : TypeId} {sz : Nat} {v : Value} {n : Nat} {xs : List Value} (h : Own w base e sz v n xs) : ∀ k, v.ownBlock = some k → base ≤ k ∧ k < w.heap.size := by
  intro k hk
  rcases h.2 with ⟨rfl, _⟩ | ⟨g, cap, cur, rfl, hb, hg, _⟩
  · simp [Value.ownBlock] at hk
  · simp [Value.ownBlock] at hk
    subst hk
    exact ⟨hb, (Array.getElem?_eq_some_iff.1 hg).1⟩
theorem Own.mono {w : World} {base base' : Nat} {e : TypeId} {sz : Nat} {v : Value} {n : Nat} {xs : List Value} (h : Own w base e sz v n xs) (hb : base' ≤ base) : Own w base' e sz v n xs := by
  refine ⟨h.1, ?_⟩
  rcases h.2 with hn | ⟨g, cap, cur, rfl, hbg, rest⟩
  · exact .inl hn
  · exact .inr ⟨g, cap, cur, rfl, Nat.le_trans hb hbg, rest⟩
theorem Own.grown {w w' : World} {base : Nat} {e : TypeId} {sz : Nat} {v : Value} {n : Nat} {xs : List Value} (h : Own w base e sz v n xs) {row : Option Nat} (hg : w.grownBy w' row) (hne : v.ownBlock = none ∨ v.ownBlock ≠ row) : Own w' base e sz v n xs := by
  refine ⟨h.1, ?_⟩
  rcases h.2 with hn | ⟨g, cap, cur, rfl, hb, hgg, rest⟩
  · exact .inl hn
  · refine .inr ⟨g, cap, cur, rfl, hb, ?_, rest⟩
    rw [hg.block g (Array.getElem?_eq_some_iff.1 hgg).1 (by simpa [Value.ownBlock] using hne)]
    exact hgg
theorem Own.below {w w' : World} {base : Nat} {e : TypeId} {sz : Nat} {v : Value} {n : Nat} {xs : List Value} (h : Own w base e sz v n xs) (hb : Below w.heap.size w w') : Own w' base e sz v n xs :=
  h.grown ⟨hb.os, hb.tape, hb.output, hb.size, fun k hk _ => hb.block k hk⟩ (row := none) (by cases hv : v.ownBlock <;> simp)
/-- A row of the call's own reads so. -/
theorem Sl.of_own {w : World} {base : Nat} {e : TypeId} {sz : Nat} {v : Value} {n : Nat} {xs : List Value} (h : Own w base e sz v n xs) : Sl w w.heap.size (n * sz) v n (fun j => xs.getD j undef) := by
  obtain ⟨h1, h2⟩ := h
  rcases h2 with ⟨rfl, rfl⟩ | ⟨g, cap, cur, rfl, hb, hg, hnc, hcm, hcs, ht⟩
  · exact ⟨none, 0, rfl, Nat.le_refl _, Nat.zero_le _, fun hm => by omega⟩
  · refine ⟨_, cap, rfl, hnc, hcm, fun hm => ⟨g, 0, rfl, (Array.getElem?_eq_some_iff.1 hg).1, fun j hj => ?_⟩⟩
    rw [cell_of_row w g (0 + j) cur e (0, 0) hg, Nat.zero_add]
    have hjx : j < xs.length := by omega
    have e1 : xs[j]? = cur[j]? := by rw [← ht, List.getElem?_take, if_pos hj]; simp
    rw [← e1]
    show xs[j]? = some (xs.getD j undef)
    rw [List.getD_eq_getElem?_getD, List.getElem?_eq_getElem hjx]
    rfl

/-- A new block that the call has filled is a row of its own. -/
theorem owns_new (w : World) (base : Nat) (e : TypeId) (size n : Nat) (cur : Array Value) (hb : base ≤ w.heap.size) (hm : n ≤ maxLen) (hs : cur.size = n * size) :
    (w.alloc (.cells cur e)).ownsRow base e size (.slice (some ⟨w.heap.size, 0, none⟩) n n) n cur.toList :=
  ⟨by simpa using hs, .inr ⟨w.heap.size, n, cur, rfl, hb, heap_alloc_new w _, Nat.le_refl _, hm, hs, List.take_of_length_le (by simp [hs])⟩⟩

/-- The cells of a row that is owned, by number. -/
theorem owns_at {w : World} {base : Nat} {e : TypeId} {sz : Nat} {v : Value} {n : Nat} {xs : List Value} (h : w.ownsRow base e sz v n xs) (hn : 0 < n) :
    ∃ g cap, v = .slice (some ⟨g, 0, none⟩) n cap ∧ n ≤ cap ∧ cap ≤ maxLen ∧ base ≤ g ∧ g < w.heap.size ∧ (∀ j u, xs[j]? = some u → w.cell? ⟨g, j, none⟩ = some u) ∧ ∀ j, w.frozen? ⟨g, j, none⟩ = false := by
  obtain ⟨h1, h2⟩ := h
  rcases h2 with ⟨_, rfl⟩ | ⟨g, cap, cur, rfl, hb, hg, hnc, hcm, hcs, ht⟩
  · omega
  · refine ⟨g, cap, rfl, hnc, hcm, hb, (Array.getElem?_eq_some_iff.1 hg).1, fun j u hj => ?_, fun j => by simp [World.frozen?, hg]⟩
    rw [cell_of_row w g j cur e (0, 0) hg]
    rw [← ht, List.getElem?_take] at hj
    split at hj
    · simpa using hj
    · cases hj

/-- What a row's owner writes: one element's cell. -/
theorem owns_set {w : World} {base : Nat} {e : TypeId} {sz : Nat} {g n cap : Nat} {xs : List Value} (h : w.ownsRow base e sz (.slice (some ⟨g, 0, none⟩) n cap) n xs) (j : Nat) (hj : j < n * sz) (u : Value) :
    (w.setCell ⟨g, j, none⟩ u).ownsRow base e sz (.slice (some ⟨g, 0, none⟩) n cap) n (xs.set j u) := by
  obtain ⟨h1, h2⟩ := h
  rcases h2 with ⟨hv, _⟩ | ⟨g', cap', cur, hv, hb, hg, hnc, hcm, hcs, ht⟩
  · cases hv
  · injection hv with e1 e2 e3
    injection e1 with e1
    injection e1 with e1
    subst e1; subst e3
    refine ⟨by simpa using h1, .inr ⟨g, cap, cur.set! j u, rfl, hb, ?_, hnc, hcm, by simpa using hcs, ?_⟩⟩
    · simp [World.setCell, Array.getElem?_modify, hg]
    · rw [Array.set!_eq_setIfInBounds, Array.toList_setIfInBounds, List.take_set, ht]

theorem grown_set (w : World) (p : Addr) (u : Value) : w.grownBy (w.setCell p u) (some p.block) :=
  ⟨rfl, rfl, rfl, by simp [World.setCell], fun k _ hk => Below.heap_setCell w p u k (fun e => hk (by rw [e]))⟩
theorem grown_of_below {w w' : World} (h : Below w.heap.size w w') (row : Option Nat) : w.grownBy w' row := ⟨h.os, h.tape, h.output, h.size, fun k hk _ => h.block k hk⟩
theorem own_below {w w' : World} {base : Nat} {e : TypeId} {sz : Nat} {v : Value} {n : Nat} {xs : List Value} (h : w.ownsRow base e sz v n xs) (hb : Below w.heap.size w w') : w'.ownsRow base e sz v n xs :=
  h.kept (grown_of_below hb none) (by cases hv : v.ownBlock <;> simp)
theorem Sl.grown {w w' : World} {B m n : Nat} {v : Value} {f : Nat → Value} (h : Sl w B m v n f) {row : Option Nat} (hg : w.grownBy w' row) (hB : B ≤ w.heap.size) (hr : ∀ k, row = some k → B ≤ k) : Sl w' B m v n f :=
  h.keep fun b o hb => World.cell?_of_block (hg.block b (by omega) (fun e => by have := hr b e.symm; omega))
theorem below_own {B : Nat} {a w w' : World} (h : Below B a w) (hb : Below w.heap.size w w') (hB : B ≤ w.heap.size) : Below B a w' := h.trans (hb.mono hB)
/-- What is known of the bytes that came in. -/
def CodeIn (w : World) (A : Option Addr) (len cap : Nat) : Prop :=
  len ≤ cap ∧ cap ≤ maxLen ∧ ∃ f : Nat → Int, (∀ j, 0 ≤ f j ∧ f j ≤ 255) ∧ (0 < len → ∃ b o, A = some ⟨b, o, none⟩ ∧ b < w.heap.size ∧ ∀ j, j < len → w.cell? ⟨b, o + j, none⟩ = some (.int .u8 (f j)))

section
variable {H : Type} {enc : TypeId × Value → H} {P : Program} {w : World}
theorem code_in {t e : TypeId} {A : Option Addr} {len cap fuel : Nat} {x : DataW H × List MemPlace} (ht : P.underlying t = some (.slice e)) (he : P.underlying e = some (.int .u8)) (hc : P.cellsOf e = 1)
    (h : DataW.trod enc P w 0 (fun _ => true) true fuel t (Value.slice A len cap).cells.toList = some x) : CodeIn w A len cap := by
  rcases open_ints ht he hc h with ⟨hcs, _⟩ | ⟨a, l, c, zs, hcs, _, hl, hm, hz, _, hcell, hwz⟩
  · simp [Value.cells] at hcs
    obtain ⟨rfl, rfl, rfl⟩ := hcs
    exact ⟨Nat.le_refl _, Nat.zero_le _, fun _ => 0, fun _ => ⟨Int.le_refl 0, (by decide : (0 : Int) ≤ 255)⟩, fun h => by omega⟩
  · simp [Value.cells] at hcs
    obtain ⟨rfl, rfl, rfl⟩ := hcs
    refine ⟨hl, hm, fun j => zs.getD j 0, fun j => ?_, fun hp => ?_⟩
    · show 0 ≤ zs.getD j 0 ∧ zs.getD j 0 ≤ 255
      rw [List.getD_eq_getElem?_getD]
      by_cases hj : j < zs.length
      · have := hwz zs[j] (List.getElem_mem hj)
        simp [Lit.wf, IntKind.min, IntKind.max, IntKind.signed, IntKind.bits] at this
        rw [List.getElem?_eq_getElem hj]
        simp only [Option.getD_some]; omega
      · rw [List.getElem?_eq_none (by omega)]; simp
    · obtain ⟨b, off, rfl, hcs⟩ := ints_at hcell (by simp at hz; omega)
      refine ⟨b, off, rfl, World.block_lt_of_cell? w _ (hcs 0 (by simp at hz; omega)), fun j hj => hcs j (by simp at hz; omega)⟩

/-- What is known of a list of structs of k one-cell fields that came in: its cells, each of what its field's type reads. -/
def RecsIn (P : Program) (w : World) (A : Option Addr) (len cap k : Nat) (Q : Nat → Value → Prop) : Prop :=
  len ≤ cap ∧ cap ≤ maxLen ∧ (0 < len → ∃ b o, A = some ⟨b, o, none⟩ ∧ b < w.heap.size ∧ ∀ i, i < len → ∀ j, j < k → ∃ v, w.cell? ⟨b, o + (i * k + j), none⟩ = some v ∧ Q j v)

theorem recs_in {t e : TypeId} {fs : Array Field} {A : Option Addr} {len cap fuel k : Nat} {x : DataW H × List MemPlace} (Q : Nat → Value → Prop) (ht : P.underlying t = some (.slice e)) (he : P.underlying e = some (.struct fs))
    (hone : oneCellFields P fs = true) (hC : P.cellsOf e = k) (hk : 0 < k) (hkf : fs.size = k)
    (hQ : ∀ (j : Nat) (f : Field), fs[j]? = some f → ∀ (n : Nat) (v : Value) (y : DataW H × List MemPlace), DataW.trod enc P w 0 (fun _ => true) true n f.type [v] = some y → Q j v)
    (h : DataW.trod enc P w 0 (fun _ => true) true fuel t (Value.slice A len cap).cells.toList = some x) : RecsIn P w A len cap k Q := by
  rcases open_slice ht h with ⟨hcs, _⟩ | ⟨a, l, c, m, n, D, Pl, hcs, _, hl, hm, hmm, _, hi⟩
  · simp [Value.cells] at hcs
    obtain ⟨rfl, rfl, rfl⟩ := hcs
    exact ⟨Nat.le_refl _, Nat.zero_le _, fun h => by omega⟩
  · simp [Value.cells] at hcs
    obtain ⟨rfl, rfl, rfl⟩ := hcs
    simp at hmm
    refine ⟨hl, hm, fun hp => ?_⟩
    have cells : ∀ i, i < len → ∀ j, j < k → ∃ v, w.cell? (a.add (i * k + j)) = some v ∧ Q j v := by
      intro i hil j hj
      obtain ⟨cs', hc, ht'⟩ := hi i (by omega)
      rw [hC] at hc
      obtain ⟨ys, n', hn', hy, hlen, hyl, hf⟩ := DataW.trod_struct he ht'
      obtain ⟨_, hcl, hat⟩ := World.cells?_some hc
      have hjf : j < fs.size := by omega
      have hjs : fs[j]? = some fs[j] := Array.getElem?_eq_getElem hjf
      obtain ⟨ho, hk'⟩ := hone_of hone j fs[j] hjs
      have h1 := hf j fs[j] hjs
      rw [ho, hk'] at h1
      have hd : (cs'.drop j).take 1 = [cs'[j]'(by omega)] := by rw [List.drop_eq_getElem_cons (by omega)]; rfl
      rw [hd] at h1
      have hys : ys[j]? = some (ys[j]'(by omega)) := List.getElem?_eq_getElem (by omega)
      refine ⟨cs'[j]'(by omega), ?_, hQ j fs[j] hjs n' _ _ (h1.trans hys)⟩
      rw [← Go.Deep.add_add, hat j hj, List.getElem?_eq_getElem (by omega)]
    obtain ⟨b, off, spot⟩ := a
    obtain ⟨v0, hv0, _⟩ := cells 0 hp 0 hk
    have hspot : spot = none := by simpa [Addr.add] using World.cell?_spot hv0
    subst hspot
    refine ⟨b, off, rfl, World.block_lt_of_cell? w _ (by simpa [Addr.add] using hv0), fun i hil j hj => ?_⟩
    obtain ⟨v, hv, hq⟩ := cells i hil j hj
    exact ⟨v, by rw [← Go.WideShapes.add_plain]; exact hv, hq⟩

def IntField (_ : Nat) (v : Value) : Prop := ∃ n : Int, v = .int .i64 n ∧ -9223372036854775808 ≤ n ∧ n ≤ 9223372036854775807
def StrField (_ : Nat) (v : Value) : Prop := ∃ s : ByteArray, v = .string s ∧ s.size ≤ maxLen
theorem fint_of {fs : Array Field} {e : TypeId} (he : P.underlying e = some (.int .i64)) (hall : ∀ f ∈ fs, f.type = e) :
    ∀ (j : Nat) (f : Field), fs[j]? = some f → ∀ (n : Nat) (v : Value) (y : DataW H × List MemPlace), DataW.trod enc P w 0 (fun _ => true) true n f.type [v] = some y → IntField j v := by
  intro j f hf n v y h
  rw [hall f (Array.mem_of_getElem? hf)] at h
  obtain ⟨a, e0, _, wa⟩ := DataW.trod_int he h
  simp at e0
  simp [Lit.wf, IntKind.min, IntKind.max, IntKind.signed, IntKind.bits] at wa
  exact ⟨a, e0, by omega, by omega⟩
theorem fstr_of {fs : Array Field} {e : TypeId} (he : P.underlying e = some .string) (hall : ∀ f ∈ fs, f.type = e) :
    ∀ (j : Nat) (f : Field), fs[j]? = some f → ∀ (n : Nat) (v : Value) (y : DataW H × List MemPlace), DataW.trod enc P w 0 (fun _ => true) true n f.type [v] = some y → StrField j v := by
  intro j f hf n v y h
  rw [hall f (Array.mem_of_getElem? hf)] at h
  obtain ⟨s, e0, _, ws⟩ := DataW.trod_string he h
  simp at e0
  exact ⟨s, e0, ws⟩
end
end Go.Proofs.YtfmfjbphflkhiaaGreatDoor
