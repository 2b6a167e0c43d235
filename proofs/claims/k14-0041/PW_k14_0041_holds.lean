import PyProof.Rows.All
import Wide.All
import OpenK.AllK
import Wide.FinOn
import Lean
import PySem.Challenge.RW_k14_0041
open PySem PySem.W PyProof.Rows
set_option Elab.async false
namespace Mine
theorem len16 : ∀ (l : List Int), l.length = 16 → ∃ a0 a1 a2 a3 a4 a5 a6 a7 a8 a9 b0 b1 b2 b3 b4 b5, l = [a0, a1, a2, a3, a4, a5, a6, a7, a8, a9, b0, b1, b2, b3, b4, b5]
  | [a0, a1, a2, a3, a4, a5, a6, a7, a8, a9, b0, b1, b2, b3, b4, b5], _ => ⟨a0, a1, a2, a3, a4, a5, a6, a7, a8, a9, b0, b1, b2, b3, b4, b5, rfl⟩
theorem fm (a : Int) {b : Int} (h : 0 ≤ b) : a.fmod b = a % b := Int.fmod_eq_emod_of_nonneg a h
theorem fd (a : Int) {b : Int} (h : 0 ≤ b) : a.fdiv b = a / b := Int.fdiv_eq_ediv_of_nonneg a h
abbrev four (n : Int) : List Int := [(n.fdiv 16777216).fmod 256, (n.fdiv 65536).fmod 256, (n.fdiv 256).fmod 256, n.fmod 256]
abbrev body1 (k v : Int) : List Int := [1] ++ four k ++ four v ++ [0, 0, 0, 0, 0, 0]
abbrev prop1 (k v : Int) : List Int := body1 k v ++ [(body1 k v).sum.fmod 256]
def num (l : List Int) : Int := l.foldl (fun k x => k * 256 + x) 0
theorem num_start : (0 : Int) = num [] := rfl
theorem num_step {pre : List Int} {k x : Int} (h : k = num pre) : k * 256 + x = num (pre ++ [x]) := by rw [h]; simp [num]
theorem num4 (a b c d : Int) : num [a, b, c, d] = ((a * 256 + b) * 256 + c) * 256 + d := by simp [num]
theorem four_num {a b c d : Int} (ha : 0 ≤ a ∧ a ≤ 255) (hb : 0 ≤ b ∧ b ≤ 255) (hc : 0 ≤ c ∧ c ≤ 255) (hd : 0 ≤ d ∧ d ≤ 255) : four (num [a, b, c, d]) = [a, b, c, d] := by
  rw [num4]
  unfold four
  simp only [fm _ (show (0:Int) ≤ 256 by decide), fd _ (show (0:Int) ≤ 16777216 by decide), fd _ (show (0:Int) ≤ 65536 by decide), fd _ (show (0:Int) ≤ 256 by decide)]
  congr 1
  · omega
  congr 1
  · omega
  congr 1
  · omega
  congr 1
  omega
theorem good1 {l : List Int} (h16 : l.length = 16) (hr : ∀ v ∈ l, 0 ≤ v ∧ v ≤ 255) (hs : l.getD 15 0 = (l.take 15).sum.fmod 256) (h0 : l.getD 0 0 = 1) (hz : ∀ v ∈ (l.drop 9).take 6, v = 0) :
    l = prop1 (num ((l.drop 1).take 4)) (num ((l.drop 5).take 4)) := by
  obtain ⟨a0, a1, a2, a3, a4, a5, a6, a7, a8, a9, b0, b1, b2, b3, b4, b5, rfl⟩ := len16 l h16
  have e0 : a0 = 1 := h0
  have z9 : a9 = 0 := hz a9 (by simp)
  have y0 : b0 = 0 := hz b0 (by simp)
  have y1 : b1 = 0 := hz b1 (by simp)
  have y2 : b2 = 0 := hz b2 (by simp)
  have y3 : b3 = 0 := hz b3 (by simp)
  have y4 : b4 = 0 := hz b4 (by simp)
  have e1 : four (num [a1, a2, a3, a4]) = [a1, a2, a3, a4] := four_num (hr _ (by simp)) (hr _ (by simp)) (hr _ (by simp)) (hr _ (by simp))
  have e2 : four (num [a5, a6, a7, a8]) = [a5, a6, a7, a8] := four_num (hr _ (by simp)) (hr _ (by simp)) (hr _ (by simp)) (hr _ (by simp))
  show _ = body1 (num [a1, a2, a3, a4]) (num [a5, a6, a7, a8]) ++ [(body1 (num [a1, a2, a3, a4]) (num [a5, a6, a7, a8])).sum.fmod 256]
  unfold body1
  rw [e1, e2]
  have hs' : b5 = ([a0, a1, a2, a3, a4, a5, a6, a7, a8, a9, b0, b1, b2, b3, b4] : List Int).sum.fmod 256 := hs
  subst e0 z9 y0 y1 y2 y3 y4
  rw [hs']
  rfl
theorem good0 {l : List Int} (h16 : l.length = 16) (hs : l.getD 15 0 = (l.take 15).sum.fmod 256) (h0 : l.getD 0 0 = 0) (hz : ∀ v ∈ (l.drop 9).take 6, v = 0) (hy : ∀ v ∈ (l.drop 1).take 8, v = 0) :
    l = List.replicate 16 0 := by
  obtain ⟨a0, a1, a2, a3, a4, a5, a6, a7, a8, a9, b0, b1, b2, b3, b4, b5, rfl⟩ := len16 l h16
  have e0 : a0 = 0 := h0
  have z9 : a9 = 0 := hz a9 (by simp)
  have y0 : b0 = 0 := hz b0 (by simp)
  have y1 : b1 = 0 := hz b1 (by simp)
  have y2 : b2 = 0 := hz b2 (by simp)
  have y3 : b3 = 0 := hz b3 (by simp)
  have y4 : b4 = 0 := hz b4 (by simp)
  have x1 : a1 = 0 := hy a1 (by simp)
  have x2 : a2 = 0 := hy a2 (by simp)
  have x3 : a3 = 0 := hy a3 (by simp)
  have x4 : a4 = 0 := hy a4 (by simp)
  have x5 : a5 = 0 := hy a5 (by simp)
  have x6 : a6 = 0 := hy a6 (by simp)
  have x7 : a7 = 0 := hy a7 (by simp)
  have x8 : a8 = 0 := hy a8 (by simp)
  have hs' : b5 = ([a0, a1, a2, a3, a4, a5, a6, a7, a8, a9, b0, b1, b2, b3, b4] : List Int).sum.fmod 256 := hs
  subst e0 z9 y0 y1 y2 y3 y4 x1 x2 x3 x4 x5 x6 x7 x8
  rw [hs']
  rfl
theorem byte (a : Int) : 0 ≤ a.fmod 256 ∧ a.fmod 256 ≤ 255 := by
  have h1 := Int.fmod_nonneg_of_pos a (show (0:Int) < 256 by decide)
  have h2 := Int.fmod_lt_of_pos a (show (0:Int) < 256 by decide)
  omega
theorem prop1_len (k v : Int) : (prop1 k v).length = 16 := rfl
theorem prop1_range (k v : Int) : ∀ x ∈ prop1 k v, 0 ≤ x ∧ x ≤ 255 := by
  intro x hx
  simp only [prop1, body1, four, List.cons_append, List.nil_append, List.mem_cons, List.not_mem_nil, or_false] at hx
  rcases hx with h | h | h | h | h | h | h | h | h | h | h | h | h | h | h | h <;> subst h <;> first | exact byte _ | decide
theorem prop1_seal (k v : Int) : (prop1 k v).getD 15 0 = ((prop1 k v).take 15).sum.fmod 256 := rfl
theorem prop1_zero (k v : Int) : ∀ x ∈ ((prop1 k v).drop 9).take 6, x = 0 := by
  intro x hx
  have : x ∈ ([0, 0, 0, 0, 0, 0] : List Int) := hx
  simpa using this
end Mine
namespace Mine
theorem app_wp {M : Model} {Γ : Ctx} {env : Env} {b : List Stmt} {Q : Flow → Pos → Shared → Prop} {E : Value → Pos → Shared → Prop} :
    ∀ (a : List Stmt) (p : Pos) (s : Shared), Sem.wp M Γ (execs a env) (fun f p' s' => match f with | .next => Sem.wp M Γ (execs b env) Q E p' s' | f => Q f p' s') E p s →
      Sem.wp M Γ (execs (a ++ b) env) Q E p s
  | [], p, s, h => h
  | st :: a, p, s, h => by
    rw [List.cons_append, execs_cons, Sem.wp_bind']
    rw [execs_cons, Sem.wp_bind'] at h
    refine Sem.wp_mono M Γ _ (fun f p' s' h' => ?_) (fun _ _ _ h' => h') _ _ h
    cases f <;> first | exact app_wp a p' s' h' | exact h'
theorem cut_at {M : Model} {A : Around} {E : Value → Shared → Prop} {s : Shared} {env : Env} {Q : Flow → Shared → Prop} (Mid : Shared → Prop) (a b : List Stmt)
    (h1 : wpAny M A (execs a env) (fun f s' => match f with | .next => Mid s' | f => Q f s') E s)
    (h2 : ∀ s', Mid s' → wpAny M A (execs b env) Q E s') : wpAny M A (execs (a ++ b) env) Q E s := fun Γ p hΓ => by
  refine app_wp a p s (Sem.wp_mono M Γ _ (fun f p' s' h' => ?_) (fun _ _ _ h' => h') _ _ (h1 Γ p hΓ))
  cases f <;> first | exact h2 _ h' Γ p' hΓ | exact h'
end Mine
namespace Mine
def Hid (P : Prop) : Prop := P
abbrev fl (u : Bool) : Int := if u = true then 1 else 0
abbrev b9 (u : Bool) (k v : Int) : List Int := [fl u] ++ four k ++ four v
abbrev blk (u : Bool) (k v : Int) : List Int := b9 u k v ++ [0, 0, 0, 0, 0, 0] ++ [(b9 u k v).sum.fmod 256]
variable {bl p q : List Int} {u : Bool} {k v x : Int}
theorem B_len (e : Hid (bl = blk u k v)) : (bl.length : Int) = 16 := by
  unfold Hid at e; rw [e]; rfl
theorem B_rng (e : Hid (bl = blk u k v)) (hx : x ∈ bl) : 0 ≤ x ∧ x ≤ 255 := by
  unfold Hid at e
  rw [e] at hx
  simp only [blk, b9, four, List.cons_append, List.nil_append, List.mem_cons, List.not_mem_nil, or_false] at hx
  rcases hx with h | h | h | h | h | h | h | h | h | h | h | h | h | h | h | h <;> subst h <;> first | exact byte _ | decide | (cases u <;> decide)
theorem B_lo (e : Hid (bl = blk u k v)) (hx : x ∈ bl) : ¬ x < 0 := by have := B_rng e hx; omega
theorem B_hi (e : Hid (bl = blk u k v)) (hx : x ∈ bl) : ¬ x > 255 := by have := B_rng e hx; omega
theorem B_seal (e : Hid (bl = blk u k v)) : bl.getD (Int.toNat 15) 0 = (List.take 15 bl).sum.fmod 256 := by
  unfold Hid at e
  rw [e]
  show (b9 u k v).sum.fmod 256 = ((b9 u k v) ++ [0, 0, 0, 0, 0, 0]).sum.fmod 256
  generalize b9 u k v = w
  rw [List.sum_append, show ([0, 0, 0, 0, 0, 0] : List Int).sum = 0 from rfl, Int.add_zero]
theorem B_f0 (e : Hid (bl = blk false k v)) : bl.getD (Int.toNat 0) 0 = 0 := by unfold Hid at e; rw [e]; rfl
theorem B_f1 (e : Hid (bl = blk true k v)) : bl.getD (Int.toNat 0) 0 = 1 := by unfold Hid at e; rw [e]; rfl
theorem B_g0 (e : Hid (bl = blk false k v)) : bl.getD (Int.toNat 0) 0 ≠ 1 := by rw [B_f0 e]; decide
theorem B_g1 (e : Hid (bl = blk true k v)) : bl.getD (Int.toNat 0) 0 ≠ 0 := by rw [B_f1 e]; decide
theorem B_pad (e : Hid (bl = blk u k v)) (hx : x ∈ List.take (min 15 bl.length - 9) (List.drop 9 bl)) : x = 0 := by
  unfold Hid at e
  rw [e] at hx
  have : x ∈ ([0, 0, 0, 0, 0, 0] : List Int) := hx
  simpa using this
theorem B_key (e : Hid (bl = blk u k v)) : List.take (min 5 bl.length - 1) (List.drop 1 bl) = four k := by unfold Hid at e; rw [e]; rfl
theorem B_val (e : Hid (bl = blk u k v)) : List.take (min 9 bl.length - 5) (List.drop 5 bl) = four v := by unfold Hid at e; rw [e]; rfl
theorem B_all (e : Hid (bl = blk u k v)) : List.take (min 9 bl.length - 1) (List.drop 1 bl) = four k ++ four v := by unfold Hid at e; rw [e]; rfl
theorem four_back {n : Int} (h0 : 0 ≤ n) (h1 : n < 4294967296) : (((four n).getD (Int.toNat 0) 0 * 256 + (four n).getD (Int.toNat 1) 0) * 256 + (four n).getD (Int.toNat 2) 0) * 256 + (four n).getD (Int.toNat 3) 0 = n := by
  show ((((n.fdiv 16777216).fmod 256) * 256 + (n.fdiv 65536).fmod 256) * 256 + (n.fdiv 256).fmod 256) * 256 + n.fmod 256 = n
  rw [fm _ (show (0:Int) ≤ 256 by decide), fm _ (show (0:Int) ≤ 256 by decide), fm _ (show (0:Int) ≤ 256 by decide), fm _ (show (0:Int) ≤ 256 by decide), fd _ (show (0:Int) ≤ 16777216 by decide), fd _ (show (0:Int) ≤ 65536 by decide), fd _ (show (0:Int) ≤ 256 by decide)]
  omega
theorem four_rng (n : Int) : 0 ≤ (((four n).getD (Int.toNat 0) 0 * 256 + (four n).getD (Int.toNat 1) 0) * 256 + (four n).getD (Int.toNat 2) 0) * 256 + (four n).getD (Int.toNat 3) 0 ∧
    (((four n).getD (Int.toNat 0) 0 * 256 + (four n).getD (Int.toNat 1) 0) * 256 + (four n).getD (Int.toNat 2) 0) * 256 + (four n).getD (Int.toNat 3) 0 < 4294967296 := by
  show 0 ≤ ((((n.fdiv 16777216).fmod 256) * 256 + (n.fdiv 65536).fmod 256) * 256 + (n.fdiv 256).fmod 256) * 256 + n.fmod 256 ∧ ((((n.fdiv 16777216).fmod 256) * 256 + (n.fdiv 65536).fmod 256) * 256 + (n.fdiv 256).fmod 256) * 256 + n.fmod 256 < 4294967296
  have h1 := byte (n.fdiv 16777216)
  have h2 := byte (n.fdiv 65536)
  have h3 := byte (n.fdiv 256)
  have h4 := byte n
  omega
theorem four_zero {n : Int} (h0 : 0 ≤ n) (h1 : n < 4294967296) (h : ∀ x ∈ four n, x = 0) : n = 0 := by
  have := four_back h0 h1
  have a := h ((n.fdiv 16777216).fmod 256) (by simp)
  have b := h ((n.fdiv 65536).fmod 256) (by simp)
  have c := h ((n.fdiv 256).fmod 256) (by simp)
  have d := h (n.fmod 256) (by simp)
  have e : ((((n.fdiv 16777216).fmod 256) * 256 + (n.fdiv 65536).fmod 256) * 256 + (n.fdiv 256).fmod 256) * 256 + n.fmod 256 = n := this
  rw [a, b, c, d] at e
  omega
/-- a byte that is not zero, though key and value are -/
theorem A1 (hx : x ≠ 0) (e : Hid (bl = blk u k v)) (hk : List.take (min 9 bl.length - 1) (List.drop 1 bl) = p ++ x :: q) (k0 : k = 0) (v0 : v = 0) : False := by
  rw [B_all e, k0, v0] at hk
  have : x ∈ four 0 ++ four 0 := by rw [hk]; simp
  have z : ∀ y ∈ four 0 ++ four 0, y = 0 := by decide
  exact hx (z x this)
theorem A2 (e : Hid (bl = blk u k v)) (hz : ∀ y, y ∈ List.take (min 9 bl.length - 1) (List.drop 1 bl) → y = 0) (hn : k ≠ 0) (h0 : 0 ≤ k) (h1 : k < 4294967296) : False := by
  rw [B_all e] at hz
  exact hn (four_zero h0 h1 fun y hy => hz y (List.mem_append_left _ hy))
theorem A3 (e : Hid (bl = blk u k v)) (hz : ∀ y, y ∈ List.take (min 9 bl.length - 1) (List.drop 1 bl) → y = 0) (hn : v ≠ 0) (h0 : 0 ≤ v) (h1 : v < 4294967296) : False := by
  rw [B_all e] at hz
  exact hn (four_zero h0 h1 fun y hy => hz y (List.mem_append_right _ hy))
theorem kne {x : Int} (h : ¬ x < 2) : x ≠ 0 := by omega
theorem St0 : ∀ y, y ∈ ([] : List Int) → y = 0 := fun _ h => nomatch h
theorem St1 {pre : List Int} {n : Int} (h : ∀ y, y ∈ pre → y = 0) (hn : n = 0) : ∀ y, y ∈ pre ++ [n] → y = 0 := by
  intro y hy
  rcases List.mem_append.mp hy with h1 | h1
  · exact h y h1
  · rw [List.mem_singleton.mp h1]; exact hn
theorem ET (h : (((((List.take (min 5 bl.length - 1) (List.drop 1 bl)).getD (Int.toNat 0) 0 * 256 + (List.take (min 5 bl.length - 1) (List.drop 1 bl)).getD (Int.toNat 1) 0) * 256 + (List.take (min 5 bl.length - 1) (List.drop 1 bl)).getD (Int.toNat 2) 0) * 256 + (List.take (min 5 bl.length - 1) (List.drop 1 bl)).getD (Int.toNat 3) 0 == k && (((List.take (min 9 bl.length - 5) (List.drop 5 bl)).getD (Int.toNat 0) 0 * 256 + (List.take (min 9 bl.length - 5) (List.drop 5 bl)).getD (Int.toNat 1) 0) * 256 + (List.take (min 9 bl.length - 5) (List.drop 5 bl)).getD (Int.toNat 2) 0) * 256 + (List.take (min 9 bl.length - 5) (List.drop 5 bl)).getD (Int.toNat 3) 0 == v) != true) = true) (e : Hid (bl = blk u k v)) (h0 : 0 ≤ k) (h1 : k < 4294967296) (g0 : 0 ≤ v) (g1 : v < 4294967296) : False := by
  rw [B_key e, B_val e, four_back h0 h1, four_back g0 g1] at h
  simp at h
theorem EF (h : (((((List.take (min 5 bl.length - 1) (List.drop 1 bl)).getD (Int.toNat 0) 0 * 256 + (List.take (min 5 bl.length - 1) (List.drop 1 bl)).getD (Int.toNat 1) 0) * 256 + (List.take (min 5 bl.length - 1) (List.drop 1 bl)).getD (Int.toNat 2) 0) * 256 + (List.take (min 5 bl.length - 1) (List.drop 1 bl)).getD (Int.toNat 3) 0 == k && (((List.take (min 9 bl.length - 5) (List.drop 5 bl)).getD (Int.toNat 0) 0 * 256 + (List.take (min 9 bl.length - 5) (List.drop 5 bl)).getD (Int.toNat 1) 0) * 256 + (List.take (min 9 bl.length - 5) (List.drop 5 bl)).getD (Int.toNat 2) 0) * 256 + (List.take (min 9 bl.length - 5) (List.drop 5 bl)).getD (Int.toNat 3) 0 == v) != false) = true) (e : Hid (bl = blk u k v)) : (0 ≤ k ∧ k < 4294967296) ∧ 0 ≤ v ∧ v < 4294967296 := by
  rw [B_key e, B_val e] at h
  have q := four_rng k
  have r := four_rng v
  generalize (((four k).getD (Int.toNat 0) 0 * 256 + (four k).getD (Int.toNat 1) 0) * 256 + (four k).getD (Int.toNat 2) 0) * 256 + (four k).getD (Int.toNat 3) 0 = a at h q
  generalize (((four v).getD (Int.toNat 0) 0 * 256 + (four v).getD (Int.toNat 1) 0) * 256 + (four v).getD (Int.toNat 2) 0) * 256 + (four v).getD (Int.toNat 3) 0 = b at h r
  have e2 : a = k ∧ b = v := by simpa using h
  rw [e2.1] at q
  rw [e2.2] at r
  exact ⟨q, r⟩
theorem O1 {k v : Int} (h : (0 ≤ k ∧ k < 4294967296) ∧ 0 ≤ v ∧ v < 4294967296) (n : ¬ 0 ≤ k) : False := n h.1.1
theorem O2 {k v : Int} (h : (0 ≤ k ∧ k < 4294967296) ∧ 0 ≤ v ∧ v < 4294967296) (n : ¬ k < 4294967296) : False := n h.1.2
theorem O3 {k v : Int} (h : (0 ≤ k ∧ k < 4294967296) ∧ 0 ≤ v ∧ v < 4294967296) (n : ¬ 0 ≤ v) : False := n h.2.1
theorem O4 {k v : Int} (h : (0 ≤ k ∧ k < 4294967296) ∧ 0 ≤ v ∧ v < 4294967296) (n : ¬ v < 4294967296) : False := n h.2.2
end Mine
namespace Mine
def num41 (form n : Int) : Int := if form = 0 then (n * 2654435761).fmod 4294967296 else if form = 1 then n.fmod 5 - 1 else if form = 2 then 4294967294 + n.fmod 4 else n
def Mid41 (h₀ : Heap) (L : Addr) (m : Str → Option Value) (u : Bool) (k v : Int) (s s' : Shared) : Prop := ∃ (l : Addr) (vs : List Value) (bl : List Int) (n : Nat) (h : Heap) (tk : Nat),
  s' = { s with heap := h, toks := tk } ∧ Fr h₀ L h (fun y => if y = Str.ofString "block" then some (.ref l) else m y) ∧ News h₀ L h [(l, listOf vs.toArray n)] ∧ IntsAre vs bl ∧ bl.length ≤ 64 ∧ Hid (bl = blk u k v)
section
variable {prog : Program} {w : World} {A : Around} {E : Value → Shared → Prop} {s : Shared} {env : Env} {Q : Flow → Shared → Prop} {h₀ : Heap} {L : Addr} {m : Str → Option Value} {u : Bool} {k v : Int} {t1 t2 : Tok}
theorem Mid41.mk {h' : Heap} {tk n : Nat} {news : List (Addr × Obj)} {l : Addr} {vs : List Value} {bl : List Int} (F : Fr h₀ L h' (fun y => if y = Str.ofString "block" then some (.ref l) else m y)) (N : News h₀ L h' news) (hl : (l, listOf vs.toArray n) ∈ news)
    (hi : IntsAre vs bl) (hb : bl.length ≤ 64) (e : bl = blk u k v) : Mid41 h₀ L m u k v s { s with heap := h', toks := tk } :=
  ⟨l, vs, bl, n, h', tk, rfl, F, fun p hp => N p ((List.mem_singleton.mp hp) ▸ hl), hi, hb, e⟩
theorem cut41 (F : Fr h₀ L s.heap m) (hu : m (Str.ofString "used") = some (.bool u)) (hk : m (Str.ofString "key") = some (.int k t1)) (hv : m (Str.ofString "value") = some (.int v t2)) (a b : List Stmt)
    (h1 : wpAny (model prog w) A (execs a env) (fun f s' => match f with | .next => Mid41 h₀ L m u k v s s' | f => Q f s') E s)
    (h2 : ∀ (l : Addr) (vs : List Value) (bl : List Int) (n : Nat) (h : Heap) (tk : Nat), Fr h₀ L h (fun y => if y = Str.ofString "block" then some (.ref l) else m y) → News h₀ L h [(l, listOf vs.toArray n)] → IntsAre vs bl → bl.length ≤ 64 → Hid (bl = blk u k v) →
      wpAny (model prog w) A (execs b env) Q E { s with heap := h, toks := tk }) : wpAny (model prog w) A (execs (a ++ b) env) Q E s :=
  cut_at (Mid41 h₀ L m u k v s) a b h1 (by
    rintro s' ⟨l, vs, bl, n, h, tk, rfl, F', N', hi, hb, e⟩
    exact h2 l vs bl n h tk F' N' hi hb e)
end
section
variable {prog : Program} {w : World} {A : Around} {E : Value → Shared → Prop} {s : Shared} {a b : Int} {t u : Tok} {Q : Value → Shared → Prop}
theorem eq_yes (h : a = b) (hq : Q (.bool true) s) : wpAny (model prog w) A (compareOp .Eq (.int a t) (.int b u)) Q E s := eq_int (by rw [h, beq_self_eq_true]; exact hq)
theorem eq_no (h : a ≠ b) (hq : Q (.bool false) s) : wpAny (model prog w) A (compareOp .Eq (.int a t) (.int b u)) Q E s := eq_int (by rw [beq_false_of_ne h]; exact hq)
theorem ne_no (h : a = b) (hq : Q (.bool false) s) : wpAny (model prog w) A (compareOp .NotEq (.int a t) (.int b u)) Q E s := ne_int (by rw [h, bne_self_eq_false]; exact hq)
theorem ne_yes (h : a ≠ b) (hq : Q (.bool true) s) : wpAny (model prog w) A (compareOp .NotEq (.int a t) (.int b u)) Q E s := ne_int (by rw [bne_iff_ne.mpr h]; exact hq)
theorem lt_no (h : ¬ a < b) (hq : Q (.bool false) s) : wpAny (model prog w) A (compareOp .Lt (.int a t) (.int b u)) Q E s := lt_int (by rw [decide_eq_false h]; exact hq)
theorem gt_no (h : ¬ a > b) (hq : Q (.bool false) s) : wpAny (model prog w) A (compareOp .Gt (.int a t) (.int b u)) Q E s := gt_int (by rw [decide_eq_false h]; exact hq)
end
end Mine
local macro_rules | `(tactic| walk_at "execs cons Assign cons") => `(tactic| (k_here; (with_reducible show wpAny _ (Around.deeper _ (envOf (Str.ofString "law_slots_round_trip") _ _ _ _)) (execs (PySem.Stmt.Assign _ _ _ :: _ :: _) _) _ _ _); (rename Fr _ _ _ _ => lF'); (k_dflt (refine Mine.cut41 lF' (by with_unfolding_all rfl) (by with_unfolding_all rfl) (by with_unfolding_all rfl) [_] _ ?_ ?_)); rotate_left; (clear lF'; intro l9 vs9 bl9 n9 h9 tk9 F9 N9 I9 len9 e9; have q9 := Mine.B_len e9)))
local macro_rules | `(tactic| walk_at "Mid41") => `(tactic| k_dflt (refine' Mine.Mid41.mk ?k1 ?k2 ?k4 ?k5 ?k6 ?k7; (case k1 => k_asm); (case k2 => k_asm); (case k4 => k_memK); (case k5 => l_ints); (case k6 => exact of_decide_eq_true rfl); (case k7 => rfl)))
local macro_rules | `(tactic| walk_at "exec For Name Subscript cons nil") => `(tactic| (k_here; (rename Fr _ _ _ _ => lF'); (with_unfolding_all refine' For_invVF lF' ?k1 ?k2 ?_; (case k1 => exact rfl); (case k2 => exact rfl); k_whole)))
local macro_rules | `(tactic| walk_at "InvEndN") => `(tactic| k_dflt (first | ksr_close | kst_close))
local macro_rules | `(tactic| walk_at "binaryOp Mult int int") => `(tactic| (k_here; (with_reducible show wpAny _ _ (binaryOp Operator.Mult (Value.int _ _) (Value.int 256 _)) _ _ _); refine mul_int ?_ (IntMulOk.of_right (by decide))))
local macro_rules | `(tactic| walk_at "compareOp NotEq int int") => `(tactic| (k_here; (with_reducible show wpAny _ (Around.deeper _ (envOf (Str.ofString "seal_holds") _ _ _ _)) (compareOp CmpOp.NotEq (Value.int _ _) (Value.int _ _)) _ _ _); (with_reducible refine Mine.ne_no (Mine.B_len (by assumption)) ?_)))
local macro_rules | `(tactic| walk_at "compareOp Lt int int") => `(tactic| (k_here; (with_reducible show wpAny _ (Around.deeper _ (envOf (Str.ofString "seal_holds") _ _ _ _)) (compareOp CmpOp.Lt (Value.int _ _) (Value.int _ _)) _ _ _); (with_reducible refine Mine.lt_no (Mine.B_lo (by assumption) (by assumption)) ?_)))
local macro_rules | `(tactic| walk_at "compareOp Gt int int") => `(tactic| (k_here; (with_reducible show wpAny _ (Around.deeper _ (envOf (Str.ofString "seal_holds") _ _ _ _)) (compareOp CmpOp.Gt (Value.int _ _) (Value.int _ _)) _ _ _); (with_reducible refine Mine.gt_no (Mine.B_hi (by assumption) (by assumption)) ?_)))
local macro_rules | `(tactic| walk_at "compareOp Eq int int") => `(tactic| (k_here; (with_reducible show wpAny _ (Around.deeper _ (envOf (Str.ofString "seal_holds") _ _ _ _)) (compareOp CmpOp.Eq (Value.int _ _) (Value.int _ _)) _ _ _); (with_reducible refine Mine.eq_yes (Mine.B_seal (by assumption)) ?_)))
local macro_rules | `(tactic| walk_at "compareOp Eq int int") => `(tactic| (k_here; (with_reducible show wpAny _ (Around.deeper _ (envOf (Str.ofString "decode_slot") _ _ _ _)) (compareOp CmpOp.Eq (Value.int (List.getD _ _ _) _) (Value.int _ _)) _ _ _); first | (with_reducible refine Mine.eq_yes (Mine.B_f0 (by assumption)) ?_) | (with_reducible refine Mine.eq_no (Mine.B_g0 (by assumption)) ?_) | (with_reducible refine Mine.eq_yes (Mine.B_f1 (by assumption)) ?_) | (with_reducible refine Mine.eq_no (Mine.B_g1 (by assumption)) ?_)))
local macro_rules | `(tactic| walk_at "compareOp NotEq int int") => `(tactic| (k_here; (with_reducible show wpAny _ (Around.deeper _ (envOf (Str.ofString "decode_slot") _ _ _ _)) (compareOp CmpOp.NotEq (Value.int _ _) (Value.int _ _)) _ _ _); first | (with_reducible refine Mine.ne_no (Mine.B_f0 (by assumption)) ?_) | (with_reducible refine Mine.ne_yes (Mine.B_g0 (by assumption)) ?_) | (with_reducible refine Mine.ne_no (Mine.B_f1 (by assumption)) ?_) | (with_reducible refine Mine.ne_yes (Mine.B_g1 (by assumption)) ?_) | (with_reducible refine Mine.ne_no (Mine.B_pad (by assumption) (by assumption)) ?_)))
local macro_rules | `(tactic| walk_at "compareOp Eq int int") => `(tactic| (k_here; (with_reducible show wpAny _ (Around.deeper _ (envOf (Str.ofString "law") _ _ _ _)) (compareOp CmpOp.Eq (Value.int (Int.fmod _ _) _) (Value.int 0 _)) _ _ _); (with_reducible refine Mine.eq_no (Mine.kne (by assumption)) ?_)))
set_option maxRecDepth 100000 in
set_option maxHeartbeats 16000000 in
theorem PySem.Challenge.cw_k14_0041_holds : PySem.Challenge.rw_k14_0041.Holds := by
  k_with "tree" => simp only [Mine.num41]
  k_with "call ref" => k_call_by "_law_number" Mine.num41
  k_with "pyIter ref" => ((with_reducible show wpAny _ _ (pyIter (Value.ref _)) (fun it s₂ => LoopAtV _ _ _ _ _ _ [PySem.Stmt.If (PySem.Expr.BoolOp _ _ _) _ _ _] _ _ it s₂) _ _); k_search (fun _ => True))
  k_with "pyIter ref" => ((with_reducible show wpAny _ _ (pyIter (Value.ref _)) (fun it s₂ => LoopAtV _ _ _ _ _ _ [PySem.Stmt.If (PySem.Expr.Compare _ _ _ _) _ _ _] _ _ it s₂) _ _); k_search (fun pre => ∀ v ∈ pre, v = 0))
  k_with "state" => first | exact True.intro | exact Mine.St0 | (with_reducible exact Mine.St1 (by assumption) (by assumption)) | (with_reducible exact Mine.St1 (by assumption) (Mine.B_pad (by assumption) (by assumption)))
  k_with "end" => ((with_reducible show (false == true) = true); exfalso; first | exact Mine.A1 (by assumption) (by assumption) (by assumption) (by assumption) (by assumption) | exact Mine.A1 (by assumption) (by assumption) (by assumption) rfl rfl | exact Mine.ET (by assumption) (by assumption) (by assumption) (by assumption) (by assumption) (by assumption) | exact Mine.ET (by assumption) (by assumption) (by decide) (by decide) (by decide) (by decide) | exact Mine.O1 (Mine.EF (by assumption) (by assumption)) (by assumption) | exact Mine.O2 (Mine.EF (by assumption) (by assumption)) (by assumption) | exact Mine.O3 (Mine.EF (by assumption) (by assumption)) (by assumption) | exact Mine.O4 (Mine.EF (by assumption) (by assumption)) (by assumption) | exact Mine.A2 (by assumption) (by assumption) (by assumption) (by assumption) (by assumption) | exact Mine.A3 (by assumption) (by assumption) (by assumption) (by assumption) (by assumption) | omega)
  open_k
