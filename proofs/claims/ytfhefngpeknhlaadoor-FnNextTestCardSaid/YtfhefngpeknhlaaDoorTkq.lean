/- Plain law, no program in sight: when two ways come out alike. -/
import Derived.Test.YtfhefngpeknhlaaDoorDfp
namespace Go.Proofs.YtfhefngpeknhlaaDoor
set_option linter.unusedVariables false
set_option linter.unusedSimpArgs false

theorem tq_F (l : List UInt8) : val l = valF l 0 := by rw [valF_eq, Int.mul_zero, Int.zero_add]
theorem tq_trim0 : ∀ (l : List UInt8), valF (trim0 l) 0 = valF l 0
  | [] => rfl
  | b :: r => by
    by_cases h : b = 48
    · subst h
      have : trim0 (48 :: r) = trim0 r := rfl
      rw [this, tq_trim0 r]
      rfl
    · have e : (b == 48) = false := by simpa using h
      have : trim0 (b :: r) = b :: r := by simp [trim0, List.dropWhile, e]
      rw [this]
theorem tq_trimZ (l : List UInt8) : val (trimZ l) = val l := by
  rw [tq_F, tq_F, ← tq_trim0 l]
  unfold trimZ
  split
  · rename_i h; rw [h]; rfl
  · rfl
theorem tq_digs (ds : List Int) (h : ∀ d ∈ ds, 0 ≤ d ∧ d ≤ 9) : digs (tx ds.reverse) = ds := by
  unfold digs tx
  rw [← List.map_reverse, List.reverse_reverse, List.map_map]
  have : ds.map ((fun b : UInt8 => (b.toNat : Int) - 48) ∘ fun d : Int => UInt8.ofNat (48 + d.toNat)) = ds.map id := by
    apply List.map_congr_left
    intro d hd
    have := h d hd
    have e : (UInt8.ofNat (48 + d.toNat)).toNat = 48 + d.toNat := by rw [UInt8.toNat_ofNat']; omega
    simp only [Function.comp, e, id]
    omega
  rw [this, List.map_id]
theorem tkS_short {s t : List UInt8} (hs : numB s = true) (way : Int) : tkS s t way = bStr (trimZ (tx (tkL s t way s.length).reverse)) := by
  have hl := numB_len hs
  have hln := tkL_length s t way s.length
  unfold tkS
  refine plS_short (fun e => ?_) (by rw [List.length_reverse, hln]; exact hl.2)
  have := congrArg List.length e
  rw [List.length_reverse, hln, List.length_nil] at this
  omega
theorem tkS_val {s t : List UInt8} (hs : numB s = true) (ht : numB t = true) (way : Int) : val (tkS s t way).data.toList = valR (tkL s t way s.length) := by
  rw [tkS_short hs, bStr_list, tq_trimZ]
  unfold val
  rw [tq_digs _ (tkL_mem hs ht way _)]
theorem tkS_num {s t : List UInt8} (hs : numB s = true) (ht : numB t = true) (way : Int) : numB (tkS s t way).data.toList = true ∧ (tkS s t way).size ≤ s.length := by
  have hl := numB_len hs
  have hln := tkL_length s t way s.length
  have hne : (tkL s t way s.length).reverse ≠ [] := fun e => by
    have := congrArg List.length e
    rw [List.length_reverse, hln, List.length_nil] at this
    omega
  have hne' : tx (tkL s t way s.length).reverse ≠ [] := by
    intro e
    have := congrArg List.length e
    rw [tx_length, List.length_reverse, hln, List.length_nil] at this
    omega
  have hlen : (trimZ (tx (tkL s t way s.length).reverse)).length ≤ s.length := by
    have := trimZ_length _ hne'
    rwa [tx_length, List.length_reverse, hln] at this
  constructor
  · exact plS_num (fun d hd => tkL_mem hs ht way _ d (List.mem_reverse.1 hd)) (plB_short hne (by rw [List.length_reverse, hln]; exact hl.2))
  · rw [tkS_short hs, bStr_size]
    exact hlen
theorem tkS_iff {s t : List UInt8} (hs : numB s = true) (ht : numB t = true) (a b : Int) : tkS s t a = tkS s t b ↔ ∀ k, k < s.length → tkD s t a k = tkD s t b k := by
  constructor
  · intro h k hk
    have hv := tkS_val hs ht a
    rw [h, tkS_val hs ht b] at hv
    have hi := valR_inj _ _ (by rw [tkL_length, tkL_length]) (tkL_mem hs ht b _) (tkL_mem hs ht a _) hv
    have := congrArg (fun l : List Int => l[k]?) hi
    simp [tkL, hk] at this
    exact this.symm
  · intro h
    have : tkL s t a s.length = tkL s t b s.length := List.map_congr_left fun k hk => h k (by simpa using hk)
    unfold tkS
    rw [this]
/-- With the smaller digit from the greater one, what is borrowed is not looked at. -/
theorem tkD_odd (s t : List UInt8) (way : Int) (k : Nat) (h1 : way % 2 = 1) (h2 : way / 2 % 2 = 0) : tkD s t way k = tkD s t (way + 2) k := by
  show (colP _ _ _ _ way).1 = (colP _ _ _ _ (way + 2)).1
  unfold colP
  have e4 : (way + 2) / 4 % 2 = way / 4 % 2 := by omega
  have e8 : (way + 2) / 8 % 2 = way / 8 % 2 := by omega
  have e1 : (way + 2) % 2 = 1 := by omega
  rw [e4, e8, if_pos h1, if_pos e1]
theorem dg_nought (k : Nat) : dg [48] k = 0 := by
  unfold dg
  split
  · rename_i h
    have : k = 0 := by simpa using h
    subst this; rfl
  · rfl
/-- A nought taken away. -/
theorem tk_nought {s : List UInt8} (hs : numB s = true) (way : Int) (h0 : 0 ≤ way) (h7 : way ≤ 7) (k : Nat) : tkB s [48] way k = 0 ∧ tkD s [48] way k = dg s k := by
  have hc : ∀ (a : Int) (wi : Bool), 0 ≤ a → colP a 0 wi 0 way = (a, 0) := by
    intro a wi ha
    unfold colP
    rw [if_neg (fun h => h.2.2 rfl), if_neg (fun h => by have := h.1; omega)]
    split
    · split
      · have : a = 0 := by omega
        subst this; rfl
      · simp
    · have e : (if way / 2 % 2 = 0 then (0 : Int) else 0) = 0 := by split <;> rfl
      rw [e, if_neg (by omega)]
      simp
  have hB : ∀ k, tkB s [48] way k = 0 := by
    intro k
    induction k with
    | zero => rfl
    | succ k ih =>
      show (colP (dg s k) (dg [48] k) _ (tkB s [48] way k) way).2 = 0
      rw [ih, dg_nought, hc _ _ (dg_range (numB_all hs) k).1]
  refine ⟨hB k, ?_⟩
  show (colP (dg s k) (dg [48] k) _ (tkB s [48] way k) way).1 = _
  rw [hB, dg_nought, hc _ _ (dg_range (numB_all hs) k).1]
theorem takB_nought {s : List UInt8} (hs : numB s = true) : takB s [48] = true := by
  refine (takB_val hs (by decide)).2 ?_
  have h1 := (val_range (numB_all hs)).1
  have h2 : val [48] = 0 := by decide
  omega
/-- No digit is too small: what the first four ways write. -/
theorem tk_none {s t : List UInt8} (way : Int) (h0 : 0 ≤ way) (h3 : way ≤ 3) (h : ∀ k, k < s.length → dg t k ≤ dg s k) : ∀ k, k ≤ s.length → tkB s t way k = 0 ∧ (k < s.length → tkD s t way k = dg s k - dg t k) := by
  have hc : ∀ (a b : Int) (wi : Bool), b ≤ a → colP a b wi 0 way = (a - b, 0) := by
    intro a b wi hba
    unfold colP
    rw [if_neg (fun h => by have := h.1; omega), if_neg (fun h => by have := h.1; omega)]
    split
    · split
      · have : a = b := by omega
        subst this; rfl
      · rfl
    · have e : (if way / 2 % 2 = 0 then (0 : Int) else 0) = 0 := by split <;> rfl
      rw [e, if_neg (by omega), Int.sub_zero]
  have hB : ∀ k, k ≤ s.length → tkB s t way k = 0 := by
    intro k
    induction k with
    | zero => intro _; rfl
    | succ k ih =>
      intro hk
      show (colP (dg s k) (dg t k) _ (tkB s t way k) way).2 = 0
      rw [ih (by omega), hc _ _ _ (h k (by omega))]
  intro k hk
  refine ⟨hB k hk, fun hlt => ?_⟩
  show (colP (dg s k) (dg t k) _ (tkB s t way k) way).1 = _
  rw [hB k hk, hc _ _ _ (h k hlt)]
/-- A digit too small shows in the next column. -/
theorem tk_some {s t : List UInt8} (hk : takB s t = true) (k : Nat) (hlt : k < s.length) (h : dg s k < dg t k) : k + 1 < s.length ∧ tkD s t 1 (k + 1) ≠ tkD s t 0 (k + 1) ∧ tkD s t 2 (k + 1) ≠ tkD s t 0 (k + 1) := by
  have hn := takB_num hk
  have hb : tkB s t 0 (k + 1) = 1 := by
    have h0 := tk_zero s t k
    have h1 := tkD_range hn.1 hn.2 0 k
    have h2 := tkB_01 hn.1 hn.2 0 k
    have h3 := tkB_01 hn.1 hn.2 0 (k + 1)
    omega
  have hl := tk_last hk
  have hne : k + 1 ≠ s.length := fun e => by rw [e, hl] at hb; exact absurd hb (by decide)
  have hD := tk_zero s t (k + 1)
  rw [hb] at hD
  have h3 := tkB_01 hn.1 hn.2 0 (k + 1 + 1)
  have ra := dg_range (numB_all hn.1) (k + 1)
  have rb := dg_range (numB_all hn.2) (k + 1)
  refine ⟨by omega, ?_, ?_⟩
  · have e : tkD s t 1 (k + 1) = if dg s (k + 1) ≤ dg t (k + 1) then dg t (k + 1) - dg s (k + 1) else dg s (k + 1) - dg t (k + 1) := by
      show (colP _ _ _ _ 1).1 = _
      unfold colP
      rw [if_neg (fun h => absurd h.1 (by decide)), if_neg (fun h => absurd h.1 (by decide)), if_pos (by decide)]
    rw [e, hD]
    generalize dg s (k + 1) = a at *
    generalize dg t (k + 1) = b at *
    split <;> omega
  · have e : tkD s t 2 (k + 1) = if dg s (k + 1) - dg t (k + 1) - 0 < 0 then dg s (k + 1) - dg t (k + 1) - 0 + 10 else dg s (k + 1) - dg t (k + 1) - 0 := by
      show (colP _ _ _ _ 2).1 = _
      unfold colP
      rw [if_neg (fun h => absurd h.1 (by decide)), if_neg (fun h => absurd h.1 (by decide)), if_neg (by decide), if_neg (show ¬ ((2 : Int) / 2 % 2 = 0) by decide)]
      split <;> rfl
    rw [e, hD]
    generalize dg s (k + 1) = a at *
    generalize dg t (k + 1) = b at *
    split <;> omega
end Go.Proofs.YtfhefngpeknhlaaDoor
