import PyProof.Rows.All
import Wide.All
import OpenK.AllK
import Wide.FinOn
import Lean
import PySem.Challenge.RW_k14_0006
open PySem PySem.W PyProof.Rows
set_option Elab.async false
namespace Mine
theorem len16 : ∀ (l : List Int), l.length = 16 → ∃ a0 a1 a2 a3 a4 a5 a6 a7 a8 a9 b0 b1 b2 b3 b4 b5, l = [a0, a1, a2, a3, a4, a5, a6, a7, a8, a9, b0, b1, b2, b3, b4, b5]
  | [a0, a1, a2, a3, a4, a5, a6, a7, a8, a9, b0, b1, b2, b3, b4, b5], _ => ⟨a0, a1, a2, a3, a4, a5, a6, a7, a8, a9, b0, b1, b2, b3, b4, b5, rfl⟩
theorem fm (a : Int) {b : Int} (h : 0 ≤ b) : a.fmod b = a % b := Int.fmod_eq_emod_of_nonneg a h
theorem fd (a : Int) {b : Int} (h : 0 ≤ b) : a.fdiv b = a / b := Int.fdiv_eq_ediv_of_nonneg a h
abbrev four (n : Int) : List Int := [(n.fdiv 16777216).fmod 256, (n.fdiv 65536).fmod 256, (n.fdiv 256).fmod 256, n.fmod 256]
abbrev body1 (k v : Int) : List Int := [1] ++ four k ++ four v ++ [0, 0, 0, 0, 0, 0]
abbrev prop1 (k v : Int) : List Int := body1 k v ++ [(body1 k v).sum.fmod 256]
def num (l : List Int) : Int := l.foldl (fun k x => k * 256 + x) 0
theorem num_start : (0 : Int) = num [] := rfl
theorem num_step {pre : List Int} {k x : Int} (h : k = num pre) : k * 256 + x = num (pre ++ [x]) := by rw [h]; simp [num]
theorem num4 (a b c d : Int) : num [a, b, c, d] = ((a * 256 + b) * 256 + c) * 256 + d := by simp [num]
theorem four_num {a b c d : Int} (ha : 0 ≤ a ∧ a ≤ 255) (hb : 0 ≤ b ∧ b ≤ 255) (hc : 0 ≤ c ∧ c ≤ 255) (hd : 0 ≤ d ∧ d ≤ 255) : four (num [a, b, c, d]) = [a, b, c, d] := by
  rw [num4]
  unfold four
  simp only [fm _ (show (0:Int) ≤ 256 by decide), fd _ (show (0:Int) ≤ 16777216 by decide), fd _ (show (0:Int) ≤ 65536 by decide), fd _ (show (0:Int) ≤ 256 by decide)]
  congr 1
  · omega
  congr 1
  · omega
  congr 1
  · omega
  congr 1
  omega
theorem good1 {l : List Int} (h16 : l.length = 16) (hr : ∀ v ∈ l, 0 ≤ v ∧ v ≤ 255) (hs : l.getD 15 0 = (l.take 15).sum.fmod 256) (h0 : l.getD 0 0 = 1) (hz : ∀ v ∈ (l.drop 9).take 6, v = 0) :
    l = prop1 (num ((l.drop 1).take 4)) (num ((l.drop 5).take 4)) := by
  obtain ⟨a0, a1, a2, a3, a4, a5, a6, a7, a8, a9, b0, b1, b2, b3, b4, b5, rfl⟩ := len16 l h16
  have e0 : a0 = 1 := h0
  have z9 : a9 = 0 := hz a9 (by simp)
  have y0 : b0 = 0 := hz b0 (by simp)
  have y1 : b1 = 0 := hz b1 (by simp)
  have y2 : b2 = 0 := hz b2 (by simp)
  have y3 : b3 = 0 := hz b3 (by simp)
  have y4 : b4 = 0 := hz b4 (by simp)
  have e1 : four (num [a1, a2, a3, a4]) = [a1, a2, a3, a4] := four_num (hr _ (by simp)) (hr _ (by simp)) (hr _ (by simp)) (hr _ (by simp))
  have e2 : four (num [a5, a6, a7, a8]) = [a5, a6, a7, a8] := four_num (hr _ (by simp)) (hr _ (by simp)) (hr _ (by simp)) (hr _ (by simp))
  show _ = body1 (num [a1, a2, a3, a4]) (num [a5, a6, a7, a8]) ++ [(body1 (num [a1, a2, a3, a4]) (num [a5, a6, a7, a8])).sum.fmod 256]
  unfold body1
  rw [e1, e2]
  have hs' : b5 = ([a0, a1, a2, a3, a4, a5, a6, a7, a8, a9, b0, b1, b2, b3, b4] : List Int).sum.fmod 256 := hs
  subst e0 z9 y0 y1 y2 y3 y4
  rw [hs']
  rfl
theorem good0 {l : List Int} (h16 : l.length = 16) (hs : l.getD 15 0 = (l.take 15).sum.fmod 256) (h0 : l.getD 0 0 = 0) (hz : ∀ v ∈ (l.drop 9).take 6, v = 0) (hy : ∀ v ∈ (l.drop 1).take 8, v = 0) :
    l = List.replicate 16 0 := by
  obtain ⟨a0, a1, a2, a3, a4, a5, a6, a7, a8, a9, b0, b1, b2, b3, b4, b5, rfl⟩ := len16 l h16
  have e0 : a0 = 0 := h0
  have z9 : a9 = 0 := hz a9 (by simp)
  have y0 : b0 = 0 := hz b0 (by simp)
  have y1 : b1 = 0 := hz b1 (by simp)
  have y2 : b2 = 0 := hz b2 (by simp)
  have y3 : b3 = 0 := hz b3 (by simp)
  have y4 : b4 = 0 := hz b4 (by simp)
  have x1 : a1 = 0 := hy a1 (by simp)
  have x2 : a2 = 0 := hy a2 (by simp)
  have x3 : a3 = 0 := hy a3 (by simp)
  have x4 : a4 = 0 := hy a4 (by simp)
  have x5 : a5 = 0 := hy a5 (by simp)
  have x6 : a6 = 0 := hy a6 (by simp)
  have x7 : a7 = 0 := hy a7 (by simp)
  have x8 : a8 = 0 := hy a8 (by simp)
  have hs' : b5 = ([a0, a1, a2, a3, a4, a5, a6, a7, a8, a9, b0, b1, b2, b3, b4] : List Int).sum.fmod 256 := hs
  subst e0 z9 y0 y1 y2 y3 y4 x1 x2 x3 x4 x5 x6 x7 x8
  rw [hs']
  rfl
theorem byte (a : Int) : 0 ≤ a.fmod 256 ∧ a.fmod 256 ≤ 255 := by
  have h1 := Int.fmod_nonneg_of_pos a (show (0:Int) < 256 by decide)
  have h2 := Int.fmod_lt_of_pos a (show (0:Int) < 256 by decide)
  omega
theorem prop1_len (k v : Int) : (prop1 k v).length = 16 := rfl
theorem prop1_range (k v : Int) : ∀ x ∈ prop1 k v, 0 ≤ x ∧ x ≤ 255 := by
  intro x hx
  simp only [prop1, body1, four, List.cons_append, List.nil_append, List.mem_cons, List.not_mem_nil, or_false] at hx
  rcases hx with h | h | h | h | h | h | h | h | h | h | h | h | h | h | h | h <;> subst h <;> first | exact byte _ | decide
theorem prop1_seal (k v : Int) : (prop1 k v).getD 15 0 = ((prop1 k v).take 15).sum.fmod 256 := rfl
theorem prop1_zero (k v : Int) : ∀ x ∈ ((prop1 k v).drop 9).take 6, x = 0 := by
  intro x hx
  have : x ∈ ([0, 0, 0, 0, 0, 0] : List Int) := hx
  simpa using this
end Mine
namespace Mine
variable {bl p q : List Int} {n k v : Int}
theorem R1 (h : bl.take 1 = [1]) (h0 : bl.getD (Int.toNat 0) 0 = 0) : False := by
  cases bl with
  | nil => simp at h
  | cons a r =>
    simp only [List.take_succ_cons, List.take_zero, List.cons.injEq, and_true] at h
    have h0' : a = 0 := h0
    omega
theorem R3 (h : ¬ bl.take 1 = [1]) (h0 : bl.getD (Int.toNat 0) 0 = 1) : False := by
  cases bl with
  | nil => exact absurd h0 (by decide)
  | cons a r =>
    have h0' : a = 1 := h0
    subst h0'
    exact h rfl
theorem T1 (h : bl.take 1 = [1]) : bl.getD (Int.toNat 0) 0 = 1 := by
  cases bl with
  | nil => simp at h
  | cons a r =>
    simp only [List.take_succ_cons, List.take_zero, List.cons.injEq, and_true] at h
    exact h
theorem T0 (h : bl.take 1 = [1]) : bl.getD (Int.toNat 0) 0 ≠ 0 := fun h0 => R1 h h0
theorem F1 (h : ¬ bl.take 1 = [1]) : bl.getD (Int.toNat 0) 0 ≠ 1 := fun h0 => R3 h h0
theorem X1 (h : (bl.length : Int) ≠ 16) (e : bl = prop1 k v) : False := by rw [e] at h; exact h rfl
theorem X2 (hk : bl = p ++ n :: q) (h : n < 0) (e : bl = prop1 k v) : False := by
  have := prop1_range k v n (by rw [← e, hk]; simp)
  omega
theorem X3 (hk : bl = p ++ n :: q) (h : 255 < n) (e : bl = prop1 k v) : False := by
  have := prop1_range k v n (by rw [← e, hk]; simp)
  omega
theorem X4 (h : bl.getD (Int.toNat 15) 0 ≠ (List.take 15 bl).sum.fmod 256) (e : bl = prop1 k v) : False := by
  rw [e] at h; exact h (prop1_seal k v)
theorem X5 (h : bl.getD (Int.toNat 0) 0 ≠ 1) (e : bl = prop1 k v) : False := by rw [e] at h; exact h rfl
theorem X6 (hk : List.take (min 15 bl.length - 9) (List.drop 9 bl) = p ++ n :: q) (h : n ≠ 0) (e : bl = prop1 k v) : False := by
  have e16 : bl.length = 16 := by rw [e]; rfl
  rw [e16] at hk
  have hk' : List.take 6 (List.drop 9 bl) = p ++ n :: q := hk
  exact h (prop1_zero k v n (by rw [← e, hk']; simp))
theorem S5 (hl : (bl.length : Int) = 16) : List.take (min 5 bl.length - 1) (List.drop 1 bl) = List.take 4 (List.drop 1 bl) := by
  have : bl.length = 16 := by omega
  rw [this]
  rfl
theorem S9 (hl : (bl.length : Int) = 16) : List.take (min 9 bl.length - 5) (List.drop 5 bl) = List.take 4 (List.drop 5 bl) := by
  have : bl.length = 16 := by omega
  rw [this]
  rfl
theorem S15 (hl : (bl.length : Int) = 16) : List.take (min 15 bl.length - 9) (List.drop 9 bl) = List.take 6 (List.drop 9 bl) := by
  have : bl.length = 16 := by omega
  rw [this]
  rfl
theorem S1 (hl : (bl.length : Int) = 16) : List.take (min 9 bl.length - 1) (List.drop 1 bl) = List.take 8 (List.drop 1 bl) := by
  have : bl.length = 16 := by omega
  rw [this]
  rfl
theorem Z1 (hk : k = num (List.take (min 5 bl.length - 1) (List.drop 1 bl))) (hv : v = num (List.take (min 9 bl.length - 5) (List.drop 5 bl))) (hl : (bl.length : Int) = 16) (hr : ∀ x, x ∈ bl → 0 ≤ x ∧ x ≤ 255)
    (hs : bl.getD (Int.toNat 15) 0 = (List.take 15 bl).sum.fmod 256) (h0 : bl.getD (Int.toNat 0) 0 = 1) (hz : ∀ x, x ∈ List.take (min 15 bl.length - 9) (List.drop 9 bl) → x = 0) (e : ¬ bl = prop1 k v) : False := by
  rw [S5 hl] at hk
  rw [S9 hl] at hv
  rw [S15 hl] at hz
  subst hk hv
  exact e (good1 (by omega) hr hs h0 hz)
theorem num_at {l : List Int} (h : l.length = 16) (j : Nat) (hj : j + 4 ≤ 16) : num (List.take 4 (List.drop j l)) = (((List.take 4 (List.drop j l)).getD (Int.toNat 0) 0 * 256 + (List.take 4 (List.drop j l)).getD (Int.toNat 1) 0) * 256 + (List.take 4 (List.drop j l)).getD (Int.toNat 2) 0) * 256 + (List.take 4 (List.drop j l)).getD (Int.toNat 3) 0 := by
  have hlen : (List.take 4 (List.drop j l)).length = 4 := by rw [List.length_take, List.length_drop]; omega
  generalize List.take 4 (List.drop j l) = m at hlen ⊢
  match m, hlen with
  | [a, b, c, d], _ => exact num4 a b c d
theorem Z2 (hk : k = num (List.take (min 5 bl.length - 1) (List.drop 1 bl))) (hv : v = num (List.take (min 9 bl.length - 5) (List.drop 5 bl))) (hl : (bl.length : Int) = 16) (h0 : bl.getD (Int.toNat 0) 0 = 1)
    (h : ((bl.getD (Int.toNat 0) 0 == 1) == true && ((((List.take (min 5 bl.length - 1) (List.drop 1 bl)).getD (Int.toNat 0) 0 * 256 + (List.take (min 5 bl.length - 1) (List.drop 1 bl)).getD (Int.toNat 1) 0) * 256 + (List.take (min 5 bl.length - 1) (List.drop 1 bl)).getD (Int.toNat 2) 0) * 256 + (List.take (min 5 bl.length - 1) (List.drop 1 bl)).getD (Int.toNat 3) 0 == k && (((List.take (min 9 bl.length - 5) (List.drop 5 bl)).getD (Int.toNat 0) 0 * 256 + (List.take (min 9 bl.length - 5) (List.drop 5 bl)).getD (Int.toNat 1) 0) * 256 + (List.take (min 9 bl.length - 5) (List.drop 5 bl)).getD (Int.toNat 2) 0) * 256 + (List.take (min 9 bl.length - 5) (List.drop 5 bl)).getD (Int.toNat 3) 0 == v)) = false) : False := by
  have h16 : bl.length = 16 := by omega
  rw [S5 hl] at hk h
  rw [S9 hl] at hv h
  rw [num_at h16 1 (by decide)] at hk
  rw [num_at h16 5 (by decide)] at hv
  rw [← hk, ← hv, h0] at h
  simp at h
abbrev zz : List Int := (List.replicate (Int.toNat 16) [(0 : Int)]).flatten
abbrev zeros16 : List Int := [0, 0, 0, 0, 0, 0, 0, 0, 0, 0, 0, 0, 0, 0, 0, 0]
theorem zz_eq (e : bl = zz) : bl = zeros16 := e.trans (by decide)
theorem Y1 (h : (bl.length : Int) ≠ 16) (e : bl = zz) : False := by rw [zz_eq e] at h; exact h rfl
theorem zall : ∀ x ∈ zeros16, x = 0 := by decide
theorem Y2 (h : n < 0) (hk : bl = p ++ n :: q) (e : bl = zz) : False := by
  have := zall n (by rw [← zz_eq e, hk]; simp)
  omega
theorem Y3 (h : 255 < n) (hk : bl = p ++ n :: q) (e : bl = zz) : False := by
  have := zall n (by rw [← zz_eq e, hk]; simp)
  omega
theorem Y4 (h : bl.getD (Int.toNat 15) 0 ≠ (List.take 15 bl).sum.fmod 256) (e : bl = zz) : False := by
  rw [zz_eq e] at h; exact h (by decide)
theorem Y5 (h : bl.getD (Int.toNat 0) 0 ≠ 0) (e : bl = zz) : False := by rw [zz_eq e] at h; exact h rfl
theorem Y6 (hk : List.take (min 15 bl.length - 9) (List.drop 9 bl) = p ++ n :: q) (h : n ≠ 0) (e : bl = zz) : False := by
  refine h (zall n ?_)
  have : n ∈ List.take (min 15 bl.length - 9) (List.drop 9 bl) := by rw [hk]; simp
  rw [zz_eq e] at this
  exact List.mem_of_mem_drop (List.mem_of_mem_take this)
theorem Y7 (hk : List.take (min 9 bl.length - 1) (List.drop 1 bl) = p ++ n :: q) (h : n ≠ 0) (e : bl = zz) : False := by
  refine h (zall n ?_)
  have : n ∈ List.take (min 9 bl.length - 1) (List.drop 1 bl) := by rw [hk]; simp
  rw [zz_eq e] at this
  exact List.mem_of_mem_drop (List.mem_of_mem_take this)
theorem W1 (hl : (bl.length : Int) = 16) (hs : bl.getD (Int.toNat 15) 0 = (List.take 15 bl).sum.fmod 256) (h0 : bl.getD (Int.toNat 0) 0 = 0) (hz : ∀ x, x ∈ List.take (min 15 bl.length - 9) (List.drop 9 bl) → x = 0)
    (hy : ∀ x, x ∈ List.take (min 9 bl.length - 1) (List.drop 1 bl) → x = 0) (e : ¬ bl = zz) : False := by
  rw [S15 hl] at hz
  rw [S1 hl] at hy
  exact e ((good0 (by omega) hs h0 hz hy).trans (by decide))
theorem W2 (e : bl = zz)
    (h : ((bl.getD (Int.toNat 0) 0 == 1) == false && ((((List.take (min 5 bl.length - 1) (List.drop 1 bl)).getD (Int.toNat 0) 0 * 256 + (List.take (min 5 bl.length - 1) (List.drop 1 bl)).getD (Int.toNat 1) 0) * 256 + (List.take (min 5 bl.length - 1) (List.drop 1 bl)).getD (Int.toNat 2) 0) * 256 + (List.take (min 5 bl.length - 1) (List.drop 1 bl)).getD (Int.toNat 3) 0 == 0 && (((List.take (min 9 bl.length - 5) (List.drop 5 bl)).getD (Int.toNat 0) 0 * 256 + (List.take (min 9 bl.length - 5) (List.drop 5 bl)).getD (Int.toNat 1) 0) * 256 + (List.take (min 9 bl.length - 5) (List.drop 5 bl)).getD (Int.toNat 2) 0) * 256 + (List.take (min 9 bl.length - 5) (List.drop 5 bl)).getD (Int.toNat 3) 0 == 0)) = false) : False := by
  rw [zz_eq e] at h
  exact absurd h (by decide)
theorem Z3 (hk : k = num (List.take (min 5 bl.length - 1) (List.drop 1 bl))) (hv : v = num (List.take (min 9 bl.length - 5) (List.drop 5 bl))) (hl : (bl.length : Int) = 16)
    (h : ((((List.take (min 5 bl.length - 1) (List.drop 1 bl)).getD (Int.toNat 0) 0 * 256 + (List.take (min 5 bl.length - 1) (List.drop 1 bl)).getD (Int.toNat 1) 0) * 256 + (List.take (min 5 bl.length - 1) (List.drop 1 bl)).getD (Int.toNat 2) 0) * 256 + (List.take (min 5 bl.length - 1) (List.drop 1 bl)).getD (Int.toNat 3) 0 == k && (((List.take (min 9 bl.length - 5) (List.drop 5 bl)).getD (Int.toNat 0) 0 * 256 + (List.take (min 9 bl.length - 5) (List.drop 5 bl)).getD (Int.toNat 1) 0) * 256 + (List.take (min 9 bl.length - 5) (List.drop 5 bl)).getD (Int.toNat 2) 0) * 256 + (List.take (min 9 bl.length - 5) (List.drop 5 bl)).getD (Int.toNat 3) 0 == v) = false) : False := by
  have h16 : bl.length = 16 := by omega
  rw [S5 hl] at hk h
  rw [S9 hl] at hv h
  rw [num_at h16 1 (by decide)] at hk
  rw [num_at h16 5 (by decide)] at hv
  rw [← hk, ← hv] at h
  simp at h
theorem Z4 (hk : k = num (List.take (min 5 bl.length - 1) (List.drop 1 bl))) (hv : v = num (List.take (min 9 bl.length - 5) (List.drop 5 bl))) (hl : (bl.length : Int) = 16)
    (h : ¬ ((((List.take (min 5 bl.length - 1) (List.drop 1 bl)).getD (Int.toNat 0) 0 * 256 + (List.take (min 5 bl.length - 1) (List.drop 1 bl)).getD (Int.toNat 1) 0) * 256 + (List.take (min 5 bl.length - 1) (List.drop 1 bl)).getD (Int.toNat 2) 0) * 256 + (List.take (min 5 bl.length - 1) (List.drop 1 bl)).getD (Int.toNat 3) 0 == k && (((List.take (min 9 bl.length - 5) (List.drop 5 bl)).getD (Int.toNat 0) 0 * 256 + (List.take (min 9 bl.length - 5) (List.drop 5 bl)).getD (Int.toNat 1) 0) * 256 + (List.take (min 9 bl.length - 5) (List.drop 5 bl)).getD (Int.toNat 2) 0) * 256 + (List.take (min 9 bl.length - 5) (List.drop 5 bl)).getD (Int.toNat 3) 0 == v) = true) : False := Z3 hk hv hl (Bool.eq_false_iff.mpr h)
theorem W3 (e : bl = zz)
    (h : ((((List.take (min 5 bl.length - 1) (List.drop 1 bl)).getD (Int.toNat 0) 0 * 256 + (List.take (min 5 bl.length - 1) (List.drop 1 bl)).getD (Int.toNat 1) 0) * 256 + (List.take (min 5 bl.length - 1) (List.drop 1 bl)).getD (Int.toNat 2) 0) * 256 + (List.take (min 5 bl.length - 1) (List.drop 1 bl)).getD (Int.toNat 3) 0 == 0 && (((List.take (min 9 bl.length - 5) (List.drop 5 bl)).getD (Int.toNat 0) 0 * 256 + (List.take (min 9 bl.length - 5) (List.drop 5 bl)).getD (Int.toNat 1) 0) * 256 + (List.take (min 9 bl.length - 5) (List.drop 5 bl)).getD (Int.toNat 2) 0) * 256 + (List.take (min 9 bl.length - 5) (List.drop 5 bl)).getD (Int.toNat 3) 0 == 0) = false) : False := by
  rw [zz_eq e] at h
  exact absurd h (by decide)
theorem W4 (e : bl = zz)
    (h : ¬ ((((List.take (min 5 bl.length - 1) (List.drop 1 bl)).getD (Int.toNat 0) 0 * 256 + (List.take (min 5 bl.length - 1) (List.drop 1 bl)).getD (Int.toNat 1) 0) * 256 + (List.take (min 5 bl.length - 1) (List.drop 1 bl)).getD (Int.toNat 2) 0) * 256 + (List.take (min 5 bl.length - 1) (List.drop 1 bl)).getD (Int.toNat 3) 0 == 0 && (((List.take (min 9 bl.length - 5) (List.drop 5 bl)).getD (Int.toNat 0) 0 * 256 + (List.take (min 9 bl.length - 5) (List.drop 5 bl)).getD (Int.toNat 1) 0) * 256 + (List.take (min 9 bl.length - 5) (List.drop 5 bl)).getD (Int.toNat 2) 0) * 256 + (List.take (min 9 bl.length - 5) (List.drop 5 bl)).getD (Int.toNat 3) 0 == 0) = true) : False := W3 e (Bool.eq_false_iff.mpr h)
end Mine
namespace Mine
theorem app_wp {M : Model} {Γ : Ctx} {env : Env} {b : List Stmt} {Q : Flow → Pos → Shared → Prop} {E : Value → Pos → Shared → Prop} :
    ∀ (a : List Stmt) (p : Pos) (s : Shared), Sem.wp M Γ (execs a env) (fun f p' s' => match f with | .next => Sem.wp M Γ (execs b env) Q E p' s' | f => Q f p' s') E p s →
      Sem.wp M Γ (execs (a ++ b) env) Q E p s
  | [], p, s, h => h
  | st :: a, p, s, h => by
    rw [List.cons_append, execs_cons, Sem.wp_bind']
    rw [execs_cons, Sem.wp_bind'] at h
    refine Sem.wp_mono M Γ _ (fun f p' s' h' => ?_) (fun _ _ _ h' => h') _ _ h
    cases f <;> first | exact app_wp a p' s' h' | exact h'
theorem cut_at {M : Model} {A : Around} {E : Value → Shared → Prop} {s : Shared} {env : Env} {Q : Flow → Shared → Prop} (Mid : Shared → Prop) (a b : List Stmt)
    (h1 : wpAny M A (execs a env) (fun f s' => match f with | .next => Mid s' | f => Q f s') E s)
    (h2 : ∀ s', Mid s' → wpAny M A (execs b env) Q E s') : wpAny M A (execs (a ++ b) env) Q E s := fun Γ p hΓ => by
  refine app_wp a p s (Sem.wp_mono M Γ _ (fun f p' s' h' => ?_) (fun _ _ _ h' => h') _ _ (h1 Γ p hΓ))
  cases f <;> first | exact h2 _ h' Γ p' hΓ | exact h'
end Mine
namespace Mine
def Mid6 (h₀ : Heap) (L : Addr) (s s' : Shared) : Prop := ∃ (l : Addr) (vs : List Value) (bl : List Int) (n : Nat) (h : Heap) (tk : Nat) (u : Str → Option Value),
  s' = { s with heap := h, toks := tk } ∧ Fr h₀ L h (fun y => if y = Str.ofString "block" then some (.ref l) else u y) ∧ News h₀ L h [(l, listOf vs.toArray n)] ∧ IntsAre vs bl ∧ bl.length ≤ 64
section
variable {prog : Program} {w : World} {A : Around} {E : Value → Shared → Prop} {s : Shared} {env : Env} {Q : Flow → Shared → Prop} {h₀ : Heap} {L : Addr} {m : Str → Option Value}
theorem Mid6.mk {h' : Heap} {tk n : Nat} {m' : Str → Option Value} {news : List (Addr × Obj)} {l : Addr} {vs : List Value} {bl : List Int} (F : Fr h₀ L h' m') (N : News h₀ L h' news) (hm : m' (Str.ofString "block") = some (.ref l)) (hl : (l, listOf vs.toArray n) ∈ news)
    (hi : IntsAre vs bl) (hb : bl.length ≤ 64) : Mid6 h₀ L s { s with heap := h', toks := tk } := by
  refine ⟨l, vs, bl, n, h', tk, m', rfl, ?_, fun p hp => N p ((List.mem_singleton.mp hp) ▸ hl), hi, hb⟩
  have e : m' = (fun y => if y = Str.ofString "block" then some (.ref l) else m' y) := by
    funext y
    by_cases h : y = Str.ofString "block"
    · rw [if_pos h, h, hm]
    · rw [if_neg h]
  exact e ▸ F
theorem cut6 (F : Fr h₀ L s.heap m) (a b : List Stmt) (h1 : wpAny (model prog w) A (execs a env) (fun f s' => match f with | .next => Mid6 h₀ L s s' | f => Q f s') E s)
    (h2 : ∀ (l : Addr) (vs : List Value) (bl : List Int) (n : Nat) (h : Heap) (tk : Nat) (u : Str → Option Value), Fr h₀ L h (fun y => if y = Str.ofString "block" then some (.ref l) else u y) → News h₀ L h [(l, listOf vs.toArray n)] → IntsAre vs bl → bl.length ≤ 64 →
      wpAny (model prog w) A (execs b env) Q E { s with heap := h, toks := tk }) : wpAny (model prog w) A (execs (a ++ b) env) Q E s :=
  cut_at (Mid6 h₀ L s) a b h1 (by
    rintro s' ⟨l, vs, bl, n, h, tk, u, rfl, F', N', hi, hb⟩
    exact h2 l vs bl n h tk u F' N' hi hb)
end
end Mine
namespace Mine
section
variable {prog : Program} {w : World} {A : Around} {E : Value → Shared → Prop} {s : Shared} {h₀ : Heap} {L D : Addr} {m : Str → Option Value} {news news' : List (Addr × Obj)} {vs : List Value} {ns : List Int} {n : Nat} {k : Int} {t u : Tok}
theorem sub_any {value slice : PySem.Expr} {Q : Value → Shared → Prop} (N : News h₀ L s.heap news) (hm : (D, listOf vs.toArray n) ∈ news) (hi : IntsAre vs ns) (h0 : 0 ≤ k) (h1 : k < ns.length) (hfit : k < 2 ^ 63) (h : ∀ x t, Q (.int x t) s)
    (hs : subscripted slice false (.ref D) (.int k u) = operate [.ref D, .int k u] (getItem (.ref D) (.int k u))) :
    wpAny (model prog w) A (subscriptTail value slice (.ref D) (.int k u)) Q E s := ksa_sub N hm hi h0 h1 hfit (fun t => h _ t) hs
theorem eq_yes {a b : Int} {Q : Value → Shared → Prop} (h : a = b) (hq : Q (.bool true) s) : wpAny (model prog w) A (compareOp .Eq (.int a t) (.int b u)) Q E s := eq_int (by rw [h, beq_self_eq_true]; exact hq)
theorem eq_no {a b : Int} {Q : Value → Shared → Prop} (h : a ≠ b) (hq : Q (.bool false) s) : wpAny (model prog w) A (compareOp .Eq (.int a t) (.int b u)) Q E s := eq_int (by rw [beq_false_of_ne h]; exact hq)
theorem ne_no {a b : Int} {Q : Value → Shared → Prop} (h : a = b) (hq : Q (.bool false) s) : wpAny (model prog w) A (compareOp .NotEq (.int a t) (.int b u)) Q E s := ne_int (by rw [h, bne_self_eq_false]; exact hq)
theorem ne_yes {a b : Int} {Q : Value → Shared → Prop} (h : a ≠ b) (hq : Q (.bool true) s) : wpAny (model prog w) A (compareOp .NotEq (.int a t) (.int b u)) Q E s := ne_int (by rw [bne_iff_ne.mpr h]; exact hq)
theorem ne_lit {x c c' : Int} (h : x = c) (hc : c ≠ c') : x ≠ c' := by rw [h]; exact hc
theorem fmod_in {x c : Int} {l : Nat} (hc : (l : Int) = c) (hp : 0 < c) : x.fmod c < (l : Int) := by rw [hc]; exact Int.fmod_lt_of_pos x hp
theorem fmod_fit {x c : Int} (hp : 0 < c) (h : c ≤ 2 ^ 63) : x.fmod c < 2 ^ 63 := Int.lt_of_lt_of_le (Int.fmod_lt_of_pos x hp) h
end
end Mine
local macro_rules | `(tactic| walk_at "execs cons Assign cons") => `(tactic| (k_here; (with_reducible show wpAny _ _ (execs (PySem.Stmt.Assign [PySem.Expr.Name (Str.ofString "body") _] _ _ :: _ :: _) _) _ _ _); (rename Fr _ _ _ _ => lF'); (k_dflt (refine Mine.cut6 lF' [_, _, _, _, _, _] _ ?cutA ?cutB)); (case' cutB => (clear lF'; intro l9 vs9 bl9 n9 h9 tk9 u9 F9 N9 I9 len9))))
local macro_rules | `(tactic| walk_at "Mid6") => `(tactic| k_dflt (refine' Mine.Mid6.mk ?k1 ?k2 ?k3 ?k4 ?k5 ?k6; (case k1 => k_asm); (case k2 => k_asm); (case k3 => with_unfolding_all rfl); (case k4 => k_memK); (case k5 => l_ints); (case k6 => ((simp only [List.length_append, List.length_cons, List.length_nil, List.length_set, List.length_take]); omega))))
local macro_rules | `(tactic| walk_at "binaryOp Mult int int") => `(tactic| (k_here; (with_reducible show wpAny _ _ (binaryOp Operator.Mult (Value.int _ _) (Value.int 256 _)) _ _ _); refine mul_int ?_ (IntMulOk.of_right (by decide))))
local macro_rules | `(tactic| walk_at "subscriptTail List cons BinOp ref int") => `(tactic| (k_here; (with_reducible show wpAny _ _ (subscriptTail _ _ (Value.ref _) (Value.int (Int.fmod _ _) _)) _ _ _); k_dflt (refine' Mine.sub_any ?k1 ?k2 ?k3 ?k4 ?k5 ?k6 ?_ ?k7; (case k1 => k_asm); (case k2 => k_memK); (case k3 => l_ints); (case k4 => exact Int.fmod_nonneg_of_pos _ (by decide)); (case k5 => exact Mine.fmod_in rfl (by decide)); (case k6 => exact Mine.fmod_fit (by decide) (by decide)); (case k7 => with_unfolding_all rfl); k_whole); intro b9 _))
local macro_rules | `(tactic| walk_at "subscriptTail BinOp Name Add BinOp Slice ref ref") => `(tactic| (k_here; (with_reducible show wpAny _ _ (subscriptTail _ (PySem.Expr.Slice _ _ none _) (Value.ref _) (Value.ref _)) _ _ _); k_dflt ((refine kba_turn (value' := PySem.Expr.Name (PySem.Str.ofString "x") ⟨0, 0, 0, 0⟩) (fun _ => rfl) ?_); refine' kmk_slice_ints ?F ?N ?l ?p ?q ?i ?m ?c ?_ ?s ?t ?z; (case F => k_asm); (case N => k_asm); (case l => kmk_list); (case p => kmk_part); (case q => kmk_part); (case i => l_ints); (case m => exact kmk_upto (by l_ints) (Int.fmod_nonneg_of_pos _ (by decide))); (case c => rfl); (case s => with_unfolding_all rfl); (case t => kmk_pure); (case z => first | exact Nat.le_of_ble_eq_true rfl | (refine kmk_sz (by l_ints) (of_decide_eq_true rfl)))); intro D' ws' h' F' N' l1 hI' hC' hL'; (try clear hC'); (try k_lt l1); (try k_sweep)))
local macro_rules | `(tactic| walk_at "setItem ref int int") => `(tactic| (k_here; (with_reducible show wpAny _ _ (setItem (Value.ref _) (Value.int (Int.fmod _ _) _) (Value.int _ _)) _ _ _); k_dflt (refine' ksa_set ?k1 ?k2 ?k3 ?k4 ?k5 ?k6 ?k7 ?_; (case k1 => k_asm); (case k2 => k_asm); (case k3 => k_upd); (case k4 => l_ints); (case k5 => exact Int.fmod_nonneg_of_pos _ (by decide)); (case k6 => exact Mine.fmod_in rfl (by decide)); (case k7 => exact Mine.fmod_fit (by decide) (by decide)); k_whole); intro h' F' N' i9 l9 s9))
local macro_rules | `(tactic| walk_at "exec For Name Subscript cons nil") => `(tactic| (k_here; (rename Fr _ _ _ _ => lF'); (with_unfolding_all refine' For_invVF lF' ?k1 ?k2 ?_; (case k1 => exact rfl); (case k2 => exact rfl); k_whole)))
local macro_rules | `(tactic| walk_at "InvEndN") => `(tactic| k_dflt (first | ksr_close | kst_close))
local macro_rules | `(tactic| walk_at "compareOp Eq int int") => `(tactic| (k_here; (with_reducible show wpAny _ (Around.deeper _ (envOf (Str.ofString "decode_slot") _ _ _ _)) (compareOp CmpOp.Eq (Value.int (List.getD _ _ _) _) (Value.int _ _)) _ _ _); first | (with_reducible refine Mine.eq_yes (by assumption) ?_) | (with_reducible refine Mine.eq_no (by assumption) ?_) | (with_reducible refine Mine.eq_yes (Mine.T1 (by assumption)) ?_) | (with_reducible refine Mine.eq_no (Mine.T0 (by assumption)) ?_) | (with_reducible refine Mine.eq_no (Mine.F1 (by assumption)) ?_)))
local macro_rules | `(tactic| walk_at "compareOp NotEq int int") => `(tactic| (k_here; (with_reducible show wpAny _ (Around.deeper _ (envOf (Str.ofString "decode_slot") _ _ _ _)) (compareOp CmpOp.NotEq (Value.int (List.getD _ _ _) _) (Value.int _ _)) _ _ _); first | (with_reducible refine Mine.ne_no (by assumption) ?_) | (with_reducible refine Mine.ne_yes (by assumption) ?_) | (with_reducible refine Mine.ne_no (Mine.T1 (by assumption)) ?_) | (with_reducible refine Mine.ne_yes (Mine.T0 (by assumption)) ?_) | (with_reducible refine Mine.ne_yes (Mine.F1 (by assumption)) ?_)))
local macro_rules | `(tactic| walk_at "compareOp Eq int int") => `(tactic| (k_here; (with_reducible show wpAny _ (Around.deeper _ (envOf (Str.ofString "law") _ _ _ _)) (compareOp CmpOp.Eq (Value.int (Int.fdiv _ _) _) (Value.int _ _)) _ _ _); (with_reducible refine Mine.eq_no (Mine.ne_lit (by assumption) (by decide)) ?_)))
set_option maxRecDepth 100000 in
set_option maxHeartbeats 16000000 in
theorem PySem.Challenge.cw_k14_0006_holds : PySem.Challenge.rw_k14_0006.Holds := by
  k_with "pyIter ref" => ((with_reducible show wpAny _ _ (pyIter (Value.ref _)) (fun it s₂ => LoopAtV _ _ _ _ _ _ [PySem.Stmt.Assign [PySem.Expr.Name (Str.ofString "key") _] _ _] _ _ it s₂) _ _); k_state (fun pre key => key = Mine.num pre) "key")
  k_with "pyIter ref" => ((with_reducible show wpAny _ _ (pyIter (Value.ref _)) (fun it s₂ => LoopAtV _ _ _ _ _ _ [PySem.Stmt.Assign [PySem.Expr.Name (Str.ofString "value") _] _ _] _ _ it s₂) _ _); k_state (fun pre value => value = Mine.num pre) "value")
  k_with "pyIter ref" => ((with_reducible show wpAny _ _ (pyIter (Value.ref _)) (fun it s₂ => LoopAtV _ _ _ _ _ _ [PySem.Stmt.If (PySem.Expr.BoolOp _ _ _) _ _ _] _ _ it s₂) _ _); k_search (fun pre => ∀ v ∈ pre, 0 ≤ v ∧ v ≤ 255))
  k_with "pyIter ref" => ((with_reducible show wpAny _ _ (pyIter (Value.ref _)) (fun it s₂ => LoopAtV _ _ _ _ _ _ [PySem.Stmt.If (PySem.Expr.Compare _ _ _ _) _ _ _] _ _ it s₂) _ _); k_search (fun pre => ∀ v ∈ pre, v = 0))
  k_with "state" => first | exact Mine.num_start | (with_reducible exact Mine.num_step (by assumption))
  k_with "end" => first | ((with_reducible show False); first | contradiction | (with_reducible exact Mine.R1 (by assumption) (by assumption)) | (with_reducible exact Mine.R3 (by assumption) (by assumption))) | ((with_reducible show (false == true) = true); exfalso; first | exact Mine.X1 (by assumption) (by assumption) | exact Mine.X2 (by assumption) (by assumption) (by assumption) | exact Mine.X3 (by assumption) (by assumption) (by assumption) | exact Mine.X4 (by assumption) (by assumption) | exact Mine.X5 (by assumption) (by assumption) | exact Mine.X6 (by assumption) (by assumption) (by assumption) | exact Mine.Z1 (by assumption) (by assumption) (by assumption) (by assumption) (by assumption) (Mine.T1 (by assumption)) (by assumption) (by assumption) | exact Mine.Z3 (by assumption) (by assumption) (by assumption) (by assumption) | exact Mine.Z4 (by assumption) (by assumption) (by assumption) (by assumption) | exact Mine.Y1 (by assumption) (by assumption) | exact Mine.Y2 (by assumption) (by assumption) (by assumption) | exact Mine.Y3 (by assumption) (by assumption) (by assumption) | exact Mine.Y4 (by assumption) (by assumption) | exact Mine.Y5 (by assumption) (by assumption) | exact Mine.Y6 (by assumption) (by assumption) (by assumption) | exact Mine.Y7 (by assumption) (by assumption) (by assumption) | exact Mine.W1 (by assumption) (by assumption) (by assumption) (by assumption) (by assumption) (by assumption) | exact Mine.W3 (by assumption) (by assumption) | exact Mine.W4 (by assumption) (by assumption))
  open_k
