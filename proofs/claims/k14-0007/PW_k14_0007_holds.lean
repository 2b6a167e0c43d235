import PyProof.Rows.All
import Wide.All
import OpenK.AllK
import Wide.FinOn
import Lean
import PySem.Challenge.RW_k14_0007
open PySem PySem.W PyProof.Rows
set_option Elab.async false
namespace Mine
def cell7 (ns : List Int) (i : Int) : Int := if i < (ns.length : Int) then ns.getD i.toNat 0 else 200 + i
def P7 (kept : List Int) (n : Int) (pre : List Int) (se : Int) : Prop := se = (n + (kept.take pre.length).sum).fmod 256
theorem P7_start (kept : List Int) (x : Int) : P7 kept (x.fmod 15) [] (x.fmod 15) := by
  have h0 := Int.fmod_nonneg_of_pos x (show (0:Int) < 15 by decide)
  have h1 := Int.fmod_lt_of_pos x (show (0:Int) < 15 by decide)
  unfold P7
  simp only [List.length_nil, List.take_zero, List.sum_nil, Int.add_zero]
  rw [Int.fmod_eq_emod_of_nonneg (x.fmod 15) (by decide)]
  omega
theorem P7_step {kept : List Int} {n se k : Int} {pre : List Int} (h : P7 kept n pre se) (hlt : pre.length < kept.length) (hk : k.toNat = pre.length) :
    P7 kept n (pre ++ [k]) ((se + kept.getD k.toNat 0).fmod 256) := by
  unfold P7 at h ⊢
  rw [h, List.length_append, List.length_singleton, List.take_add_one, List.getElem?_eq_getElem hlt, hk]
  simp only [Option.toList_some, List.sum_append, List.sum_cons, List.sum_nil, Int.add_zero]
  rw [List.getD_eq_getElem?_getD, List.getElem?_eq_getElem hlt, Option.getD_some]
  simp only [Int.fmod_eq_emod_of_nonneg _ (show (0:Int) ≤ 256 by decide)]
  omega
theorem P7_range {kept : List Int} {n se : Int} {pre : List Int} (h : P7 kept n pre se) : 0 ≤ se ∧ se < 256 := by
  unfold P7 at h
  rw [h]
  exact ⟨Int.fmod_nonneg_of_pos _ (by decide), Int.fmod_lt_of_pos _ (by decide)⟩
theorem P7_turnA {kept : List Int} {n se k : Int} {pre : List Int} (h : P7 kept n pre se) (hb : ∀ t ∈ kept, 0 ≤ t ∧ t < 256) (hlt : pre.length < kept.length) (hk : k.toNat = pre.length)
    (hs : se + kept.getD k.toNat 0 ≥ 256) : P7 kept n (pre ++ [k]) (se + kept.getD k.toNat 0 - 256) := by
  have q := P7_step h hlt hk
  have r := P7_range h
  have v : 0 ≤ kept.getD k.toNat 0 ∧ kept.getD k.toNat 0 < 256 := by
    rw [hk, List.getD_eq_getElem?_getD, List.getElem?_eq_getElem hlt, Option.getD_some]
    exact hb _ (List.getElem_mem hlt)
  have e : (se + kept.getD k.toNat 0).fmod 256 = se + kept.getD k.toNat 0 - 256 := by
    rw [Int.fmod_eq_emod_of_nonneg _ (by decide)]; omega
  rw [← e]; exact q
theorem P7_turnB {kept : List Int} {n se k : Int} {pre : List Int} (h : P7 kept n pre se) (hb : ∀ t ∈ kept, 0 ≤ t ∧ t < 256) (hlt : pre.length < kept.length) (hk : k.toNat = pre.length)
    (hs : ¬ se + kept.getD k.toNat 0 ≥ 256) : P7 kept n (pre ++ [k]) (se + kept.getD k.toNat 0) := by
  have q := P7_step h hlt hk
  have r := P7_range h
  have v : 0 ≤ kept.getD k.toNat 0 ∧ kept.getD k.toNat 0 < 256 := by
    rw [hk, List.getD_eq_getElem?_getD, List.getElem?_eq_getElem hlt, Option.getD_some]
    exact hb _ (List.getElem_mem hlt)
  have e : (se + kept.getD k.toNat 0).fmod 256 = se + kept.getD k.toNat 0 := by
    rw [Int.fmod_eq_emod_of_nonneg _ (by decide)]; omega
  rw [← e]; exact q

theorem Q7_start : (([] : List Int) = []) ∧ ([] : List Int).length = ([] : List Int).length ∧ ((([] : List Int).length : Nat) : Int) ≤ 14 ∧ ∀ t ∈ ([] : List Int), 0 ≤ t ∧ t < 256 :=
  ⟨rfl, rfl, by decide, fun _ h => nomatch h⟩
theorem Q7_turn {pre tg : List Int} {k x n : Int} (h1 : tg.length = pre.length) (h3 : ∀ t, t ∈ tg → 0 ≤ t ∧ t < 256) (hlt : pre.length < (n.fmod 15 - 0).toNat) :
    (tg ++ [x.fmod 256] = tg ++ [x.fmod 256]) ∧ (tg ++ [x.fmod 256]).length = (pre ++ [k]).length ∧ (((pre ++ [k]).length : Nat) : Int) ≤ 14 ∧ ∀ t ∈ tg ++ [x.fmod 256], 0 ≤ t ∧ t < 256 := by
  refine ⟨rfl, by simp only [List.length_append, List.length_singleton, h1], ?_, ?_⟩
  · have b := Int.fmod_lt_of_pos n (show (0:Int) < 15 by decide)
    simp only [List.length_append, List.length_singleton]
    omega
  · intro t ht
    rcases List.mem_append.mp ht with h | h
    · exact h3 t h
    · rw [List.mem_singleton.mp h]
      exact ⟨Int.fmod_nonneg_of_pos _ (by decide), Int.fmod_lt_of_pos _ (by decide)⟩
theorem P7_A {kept : List Int} {n se k : Int} {pre : List Int} (h : P7 kept n pre se) (hb : ∀ t, t ∈ kept → 0 ≤ t ∧ t < 256) (hl : kept.length = (rangeKs 0 (n - 0).toNat).length) (hlt : pre.length < (n - 0).toNat) (hk : k = 0 + (pre.length : Int))
    (hs : 256 ≤ se + kept.getD k.toNat 0) : P7 kept n (pre ++ [k]) (se + kept.getD k.toNat 0 - 256) :=
  P7_turnA h hb (by rw [hl, rangeKs_length]; exact hlt) (by omega) hs
theorem P7_B {kept : List Int} {n se k : Int} {pre : List Int} (h : P7 kept n pre se) (hb : ∀ t, t ∈ kept → 0 ≤ t ∧ t < 256) (hl : kept.length = (rangeKs 0 (n - 0).toNat).length) (hlt : pre.length < (n - 0).toNat) (hk : k = 0 + (pre.length : Int))
    (hs : ¬ 256 ≤ se + kept.getD k.toNat 0) : P7 kept n (pre ++ [k]) (se + kept.getD k.toNat 0) :=
  P7_turnB h hb (by rw [hl, rangeKs_length]; exact hlt) (by omega) hs
abbrev zs (l : List Int) : List Int := (List.replicate (15 - (((1 + l.length : Nat)) : Int)).toNat [(0 : Int)]).flatten
abbrev big (l : List Int) : List Int := [(l.length : Int)] ++ l ++ zs l ++ [((l.length : Int) :: l).sum.fmod 256]
theorem zs_eq (l : List Int) : zs l = List.replicate (14 - l.length) 0 := by
  unfold zs
  rw [krep_flat]
  congr 1
  omega
theorem L1 {l : List Int} (h : (l.length : Int) ≤ 14) : (((1 + l.length + (zs l).length + 1 : Nat)) : Int) = 16 := by
  rw [zs_eq, List.length_replicate]; omega
theorem L2 {l : List Int} {x : Int} (h : l.length = (rangeKs 0 (x.fmod 15 - 0).toNat).length) : (big l).getD (Int.toNat 0) 0 = x.fmod 15 := by
  have b := Int.fmod_nonneg_of_pos x (show (0:Int) < 15 by decide)
  rw [rangeKs_length] at h
  show (l.length : Int) = x.fmod 15
  omega
theorem L3 {l : List Int} {n k : Int} {p : List Int} (h : l.length = (rangeKs 0 (n - 0).toNat).length) (hk : k = 0 + (p.length : Int)) (hp : p.length < (n - 0).toNat) : (big l).getD (1 + k).toNat 0 = l.getD k.toNat 0 := by
  rw [rangeKs_length] at h
  have e : (1 + k).toNat = k.toNat + 1 := by omega
  rw [e]
  unfold big
  simp only [List.getD_eq_getElem?_getD, List.cons_append, List.nil_append, List.getElem?_cons_succ, List.append_assoc]
  rw [List.getElem?_append_left (by omega)]
theorem L4 {l : List Int} {x k : Int} {p : List Int} (h : l.length = (rangeKs 0 (x.fmod 15 - 0).toNat).length) (hk : k = 1 + x.fmod 15 + (p.length : Int)) (hp : p.length < (15 - (1 + x.fmod 15)).toNat) : (big l).getD k.toNat 0 = 0 := by
  have b := Int.fmod_nonneg_of_pos x (show (0:Int) < 15 by decide)
  rw [rangeKs_length] at h
  have e : k.toNat = l.length + p.length + 1 := by omega
  rw [e]
  unfold big
  rw [zs_eq]
  simp only [List.getD_eq_getElem?_getD, List.cons_append, List.nil_append, List.getElem?_cons_succ, List.append_assoc]
  rw [List.getElem?_append_right (by omega), List.getElem?_append_left (by rw [List.length_replicate]; omega), List.getElem?_replicate, if_pos (by omega)]
  rfl
theorem L5 {l : List Int} {x se : Int} (h : l.length = (rangeKs 0 (x.fmod 15 - 0).toNat).length) (hp : P7 l (x.fmod 15) (rangeKs 0 (x.fmod 15 - 0).toNat) se) : (big l).getD (Int.toNat 15) 0 = se := by
  have b := Int.fmod_nonneg_of_pos x (show (0:Int) < 15 by decide)
  have b2 := Int.fmod_lt_of_pos x (show (0:Int) < 15 by decide)
  have h' := h
  rw [rangeKs_length] at h
  unfold P7 at hp
  rw [← h', List.take_length] at hp
  rw [hp]
  unfold big
  rw [zs_eq, show Int.toNat 15 = 14 + 1 from rfl]
  simp only [List.getD_eq_getElem?_getD, List.cons_append, List.nil_append, List.getElem?_cons_succ, List.append_assoc]
  rw [List.getElem?_append_right (by omega), List.getElem?_append_right (by rw [List.length_replicate]; omega), List.length_replicate]
  have e : 14 - l.length - (14 - l.length) = 0 := by omega
  rw [e]
  simp only [List.getElem?_cons_zero, Option.getD_some, List.sum_cons]
  have e2 : (l.length : Int) = x.fmod 15 := by omega
  rw [e2]
end Mine
local macro_rules | `(tactic| walk_at "InvEndN") => `(tactic| k_dflt (first | ksr_close | kst_close))
local macro_rules | `(tactic| walk_at "subscriptTail Name Name ref int") => `(tactic| (k_here; (with_reducible show wpAny _ _ (subscriptTail _ _ (Value.ref _) (Value.int _ _)) _ _ _); k_dflt (refine' ksa_sub ?k1 ?k2 ?k3 ?k4 ?k5 ?k6 ?_ ?k7; (case k1 => k_asm); (case k2 => k_memK); (case k3 => with_reducible assumption); (case k4 => omega); (case k5 => (simp only [rangeKs_length, List.length_append, List.length_cons, List.length_nil] at *; omega)); (case k6 => (simp only [rangeKs_length] at *; omega)); (case k7 => with_unfolding_all rfl); k_whole); intro _))
set_option maxRecDepth 100000 in
set_option maxHeartbeats 8000000 in
theorem PySem.Challenge.cw_k14_0007_holds : PySem.Challenge.rw_k14_0007.Holds := by
  k_with "tree" => simp only [Mine.cell7]
  k_with "call ref" => k_call_by "_law_cell" Mine.cell7 (fun (_ : List Int) (i : Int) => 0 ≤ i)
  k_with "pyIter ref" => ((with_reducible show wpAny _ _ (pyIter (Value.ref _)) (fun it s₂ => LoopAtV _ _ _ _ _ _ [PySem.Stmt.If _ _ _ _] _ _ it s₂) _ _); k_search (fun _ => True))
  k_with "pyIter ref" => ((with_reducible show wpAny _ _ (pyIter (Value.ref _)) (fun it s₂ => LoopAtV _ _ _ _ _ _ [PySem.Stmt.If _ _ _ _, _, _] _ _ it s₂) _ _); k_state_given ["kept", "n"] (fun kept n pre se => Mine.P7 kept n pre se) "seal")
  k_with "pyIter ref" => ((with_reducible show wpAny _ _ (pyIter (Value.ref _)) (fun it s₂ => LoopAtV _ _ _ _ _ _ [PySem.Stmt.Assign _ _ _, _, _] _ _ it s₂) _ _); k_state (fun pre targets kept => targets = kept ∧ targets.length = pre.length ∧ (pre.length : Int) ≤ 14 ∧ ∀ t ∈ targets, 0 ≤ t ∧ t < 256) "targets" "kept")
  k_with "call builtin:len" => (k_here; (with_reducible show wpAny _ _ (call (Value.builtin "len") [Value.ref _]) _ _ _); k_dflt (refine' kst_len ?k1 ?k2 ?k3 ?k4 ?_; (case k1 => k_asm); (case k2 => k_memK); (case k3 => ((rw [IntsAre.length (by assumption)]); (simp only [List.length_append, List.length_cons, List.length_nil]); exact rfl)); (case k4 => ((try simp only [rangeKs_length] at *); omega))); k_whole)
  k_with "binaryOp Mult ref int" => (k_here; (with_reducible show wpAny _ _ (binaryOp Operator.Mult (Value.ref _) (Value.int _ _)) _ _ _); (refine KM.mul (by k_asm) (by k_asm) (by is_list) (by l_ints) (by omega) (by omega) (by (simp only [List.length_cons, List.length_nil]; omega)) ?_); (intro D' h' F' N' l1 i1 n1 s1 e1 e2 e3); (try k_lt l1); (try simp only [List.length_cons, List.length_nil] at e3))
  k_with "end" => first | rfl | ((with_reducible show (false == true) = true); (rename (_ : Int) ≠ _ => hne); first | exact (hne (Mine.L1 (by omega))).elim | exact (hne (Mine.L2 (by assumption))).elim | exact (hne (Mine.L3 (by assumption) (by assumption) (by assumption))).elim | exact (hne (Mine.L4 (by assumption) (by assumption) (by assumption))).elim | exact (hne (Mine.L5 (by assumption) (by assumption))).elim)
  k_with "state" => first | exact True.intro | (with_reducible exact Mine.P7_A (by assumption) (by assumption) (by assumption) (by assumption) (by assumption) (by assumption)) | (with_reducible exact Mine.P7_B (by assumption) (by assumption) (by assumption) (by assumption) (by assumption) (by assumption)) | (with_reducible exact Mine.Q7_turn (by assumption) (by assumption) (by assumption)) | (with_reducible exact Mine.P7_start _ _) | exact Mine.Q7_start
  open_k
