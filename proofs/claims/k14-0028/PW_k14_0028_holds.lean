import PyProof.Rows.All
import Wide.All
import OpenK.AllK
import Wide.FinOn
import Lean
import PySem.Challenge.RW_k14_0028
open PySem PySem.W PyProof.Rows
set_option Elab.async false
section
namespace Mine
section
variable {tb : String → Option Builtin} {p : Program} {w : World} {n₀ : Nat} {ann : Option Value} {env : Env} {q : Pos}
theorem piece_all {n N : Nat} {s s' r : Shared} {l : List Stmt} {c c' : Code} {pos p' : Pos} (h : segRun tb p w n₀ ann 1 n s (piecesOf l env c pos [topFrame q]) = some (.next, s', c', p'))
    (k : topRun tb p w n₀ ann N s' ⟨doneF .next, c', p', [topFrame q]⟩ = some r) : topRun tb p w n₀ ann (n + N) s (restOf l env c pos [topFrame q]) = some r := by
  obtain ⟨a, ha, hN⟩ := seg_top (res := id) (K' := fun f => match f with | .next => (execs [] env).wrap doneF (leaveH env) id id | f => doneF f) (H' := leaveH env) (B := [topFrame q]) rfl n s (piecesOf l env c pos [topFrame q])
    ⟨(execs l env).wrap (fun f => match f with | .next => (execs [] env).wrap doneF (leaveH env) id id | f => doneF f) (leaveH env) id id, c, pos, [topFrame q]⟩ _ _ _ _ ⟨rfl, rfl, .inl ⟨rfl, rfl, _, rfl, rfl⟩⟩ h
  obtain rfl : a = .next := ha
  have := hN N r k
  have e := execs_app_wrap (env := env) l [] doneF (leaveH env) id id
  rw [List.append_nil] at e
  unfold restOf
  rw [e]
  exact this
end
def tObj : Obj := { cls := .type "tuple", data := .seq #[] }
def fObj : Obj := { cls := .none, data := .fields #[] }
def cObj : Obj := { cls := .type "code", data := .fields #[.str (Str.ofString "<module>") 182, .str (Str.ofString "<module>") 183, .str (Str.ofString "/claim/cut.py") 184, .int 1 0, .int 0 0, .int 0 0, .int 0 0, .int 0 0, .ref 11, .bool false, .int 181 0, .ref 12, .none, .none, .none, .none, .int 185 0, .int 1 0, .str (Str.ofString "/claim/cut.py") 186] }
def frObj : Obj := { cls := .type "frame", slots := #[some (.ref 13), some (.ref 3), some (.ref 3), none, some (.str (Str.ofString "__main__") 164), none, some (.ref 0)] }
noncomputable def tree0 (P : Params) : BT :=
  .node (boot_o_0 P)
    (.node (boot_o_1 P) (.node (boot_o_3 P) (.node (boot_o_7 P) .nil .nil) (.node tObj .nil .nil)) (.node (boot_o_5 P) (.node (boot_o_9 P) .nil .nil) (.node cObj .nil .nil)))
    (.node (boot_o_2 P) (.node (boot_o_4 P) (.node (boot_o_8 P) .nil .nil) (.node fObj .nil .nil)) (.node (boot_o_6 P) (.node (boot_o_10 P) .nil .nil) (.node frObj .nil .nil)))
noncomputable def st0 (w : World) (os : OsState) : SharedT := ⟨tree0 w.params, 15, {}, Array.mk [], {}, 187, os⟩
def pos0 : Pos := { line := 0, col := 0, endLine := 0, endCol := 0 }
def env0 (p : Program) : Env := { scope := p.main.scope, locals := mainNs, globals := mainNs, cells := [], code := .ref 13, frame := some 14 }
def code0 (p : Program) : Code := .body (behindTheImports p) (env0 p)
theorem left_tree {p q : Program} {loose : List Str} {Xt : Shared → Bool} {α : Type} {Yf : Shared → α} {Ya : World → α} {N : Nat} (N1 : Nat) (e : opening p = plainProg p.main.scope.names) (hN : Nat.ble 600 N = true) (f : ∀ s, fenceModules? p s = some s) (le : Nat.ble (12 + (1 + (N1 + 2))) N = true)
    (pre : ∀ (w : World) (os : OsState), topGo treeTable p w 11 (some (Value.ref 6)) 12 ⟨boot_heap w.params, Array.mk [], boot_drawn, boot_toks, os⟩ (topStub p) = some ((st0 w os).abs, ⟨denote treeTable (code0 p), code0 p, pos0, [topFrame pos0]⟩))
    (block : ∀ (w : World) (os : OsState), segRun treeTable p w 11 (some (Value.ref 6)) 1 1 (st0 w os).abs (blockOf (behindTheImports p) (env0 p) (code0 p) pos0 [topFrame pos0]) = some (.next, (st0 w os).abs, code0 p, pos0))
    (run : ∀ (w : World) (os : OsState), (PySem.W.Fast.tw10110043849684766642 PySem.W.Fast.tw14364793385576792824 p w 11 (some (Value.ref 6)) 1 N1 (st0 w os) (piecesOf (behindTheImports p) (env0 p) (code0 p) pos0 [topFrame pos0])).bind (fun r => match r with
      | (.next, S', c', p') => (PySem.W.Fast.tw14082659384304107361 PySem.W.Fast.tw14364793385576792824 p w 11 (some (Value.ref 6)) 2 S'.abs ⟨doneF .next, c', p', [topFrame pos0]⟩).bind (fun s₁ =>
        match staticsOk (PySem.W.Fast.tw5923862056798008813 p.main.body) (boot_heap w.params) s₁.heap && namesBound p s₁.heap && gensDone s₁ && laidKept (boot_heap w.params) s₁.heap with
        | true => some (PySem.W.Fast.tw4187177175401517315 q loose (PySem.W.Fast.tw5923862056798008813 p.main.body) Xt true s₁, Yf s₁)
        | false => none)
      | _ => none) = some (openGood q loose, Ya w)) : LeftO p q loose Xt Yf Ya N := fun w => by
  rw [← PySem.W.Fast.te14082659384304107361, ← PySem.W.Fast.te14364793385576792824, ← PySem.W.Fast.te4187177175401517315, ← PySem.W.Fast.te5923862056798008813, ← PySem.W.Fast.te10110043849684766642] at run
  obtain ⟨⟨h, gs, d, k, os⟩, e0, e'⟩ := Option.map_eq_some_iff.mp (boot_open e hN f w)
  obtain ⟨rfl, rfl, rfl, rfl⟩ : h = boot_heap w.params ∧ gs = Array.mk [] ∧ d = boot_drawn ∧ k = boot_toks := by simpa using e'
  have z1 : ((boot_heap w.params).isNs mainGlobals && (Array.mk ([] : List GenState)).size == 0) = true := by kernel_rfl
  have z2 : (boot_heap w.params).objs.size = 11 := by kernel_rfl
  have z3 : (boot_heap w.params).nsMap mainGlobals "__annotations__" = some (Value.ref 6) := by kernel_rfl
  obtain ⟨⟨fl, S', c', p'⟩, r0, r'⟩ := Option.bind_eq_some_iff.mp (run w os)
  cases fl <;> try (cases r'; done)
  obtain ⟨s₁, r1, r2⟩ := Option.bind_eq_some_iff.mp r'
  have t1 := go_top (pre w os) (piece_block (block w os) (piece_all (segRun_of r0) r1))
  have t2 := topRun_mono (N - (12 + (1 + (N1 + 2)))) _ _ _ _ t1
  rw [show 12 + (1 + (N1 + 2)) + (N - (12 + (1 + (N1 + 2)))) = N by have := Nat.le_of_ble_eq_true le; omega] at t2
  unfold openEnds
  rw [e0]
  show ((topFrom treeTable p w N _).map _) = _
  unfold topFrom
  dsimp only
  rw [z1, z2, z3, t2]
  show ((match staticsOk (importedModules p.main.body) (boot_heap w.params) s₁.heap && namesBound p s₁.heap && gensDone s₁ && laidKept (boot_heap w.params) s₁.heap with | true => some s₁ | false => none).map _) = _
  cases hb : (staticsOk (importedModules p.main.body) (boot_heap w.params) s₁.heap && namesBound p s₁.heap && gensDone s₁ && laidKept (boot_heap w.params) s₁.heap) with
  | false => rw [hb] at r2; cases r2
  | true => rw [hb] at r2; exact r2
end Mine
end
section
namespace Mine
theorem app_wp {M : Model} {Γ : Ctx} {env : Env} {b : List Stmt} {Q : Flow → Pos → Shared → Prop} {E : Value → Pos → Shared → Prop} :
    ∀ (a : List Stmt) (p : Pos) (s : Shared), Sem.wp M Γ (execs a env) (fun f p' s' => match f with | .next => Sem.wp M Γ (execs b env) Q E p' s' | f => Q f p' s') E p s →
      Sem.wp M Γ (execs (a ++ b) env) Q E p s
  | [], p, s, h => h
  | st :: a, p, s, h => by
    rw [List.cons_append, execs_cons, Sem.wp_bind']
    rw [execs_cons, Sem.wp_bind'] at h
    refine Sem.wp_mono M Γ _ (fun f p' s' h' => ?_) (fun _ _ _ h' => h') _ _ h
    cases f <;> first | exact app_wp a p' s' h' | exact h'
theorem cut_at {M : Model} {A : Around} {E : Value → Shared → Prop} {s : Shared} {env : Env} {Q : Flow → Shared → Prop} (Mid : Shared → Prop) (a b : List Stmt)
    (h1 : wpAny M A (execs a env) (fun f s' => match f with | .next => Mid s' | f => Q f s') E s)
    (h2 : ∀ s', Mid s' → wpAny M A (execs b env) Q E s') : wpAny M A (execs (a ++ b) env) Q E s := fun Γ p hΓ => by
  refine app_wp a p s (Sem.wp_mono M Γ _ (fun f p' s' h' => ?_) (fun _ _ _ h' => h') _ _ (h1 Γ p hΓ))
  cases f <;> first | exact h2 _ h' Γ p' hΓ | exact h'
end Mine
end
section
namespace Mine
def Same (h₀ : Heap) (L : Addr) (m : Str → Option Value) (news : List (Addr × Obj)) (s s' : Shared) : Prop := ∃ (h : Heap) (tk : Nat), s' = { s with heap := h, toks := tk } ∧ Fr h₀ L h m ∧ News h₀ L h news
section
variable {prog : Program} {w : World} {A : Around} {E : Value → Shared → Prop} {s : Shared} {env : Env} {Q : Flow → Shared → Prop} {h₀ : Heap} {L : Addr} {m : Str → Option Value} {news all : List (Addr × Obj)}
theorem Same.mk {h' : Heap} {tk : Nat} (F : Fr h₀ L h' m) (N : News h₀ L h' all) (sub : ∀ p ∈ news, p ∈ all) : Same h₀ L m news s { s with heap := h', toks := tk } := ⟨h', tk, rfl, F, fun p hp => N p (sub p hp)⟩
end
end Mine
end
section
namespace Mine
def MidS {σ : Type} (h₀ : Heap) (L : Addr) (m : Str → Option Value) (x : Str) (stored : List Str) (ps : σ → List (Str × Value)) (Led : σ → List (Addr × Obj)) (P : σ → Prop) (s s' : Shared) : Prop :=
  ∃ (c : σ) (h : Heap) (tk : Nat) (u : Str → Option Value), s' = { s with heap := h, toks := tk } ∧ Fr h₀ L h (fun y => if y = x then u y else kstB (fun z => if stored.contains z then u z else m z) (ps c) y) ∧ News h₀ L h (Led c) ∧ P c
section
variable {σ : Type} {prog : Program} {w : World} {A : Around} {E : Value → Shared → Prop} {s : Shared} {env : Env} {Q : Flow → Shared → Prop} {h₀ : Heap} {L : Addr} {m m' : Str → Option Value} {x : Str} {stored : List Str} {ps : σ → List (Str × Value)} {Led : σ → List (Addr × Obj)} {P : σ → Prop} {all : List (Addr × Obj)}
theorem MidS.mk (c : σ) {h' : Heap} {tk : Nat} (F : Fr h₀ L h' m') (N : News h₀ L h' all) (hk : ∀ p ∈ ps c, m' p.1 = some p.2) (hr : ∀ z, z ≠ x → (∀ p ∈ ps c, z ≠ p.1) → stored.contains z = false → m' z = m z) (sub : ∀ p ∈ Led c, p ∈ all) (hp : P c) :
    MidS h₀ L m x stored ps Led P s { s with heap := h', toks := tk } := ⟨c, h', tk, m', rfl, kst_frOut hk hr F, fun p hq => N p (sub p hq), hp⟩
end
section
variable {σ : Type} {prog : Program} {w : World} {A : Around} {E : Value → Shared → Prop} {s : Shared} {env : Env} {Q : Flow → Shared → Prop} {h₀ : Heap} {L : Addr} {m : Str → Option Value} {news : List (Addr × Obj)}
end
def keepL {α : Type} : List Bool → List α → List α
  | [], l => l
  | _ :: _, [] => []
  | true :: bs, x :: l => x :: keepL bs l
  | false :: bs, _ :: l => keepL bs l
theorem keepL_sub {α : Type} : ∀ (bs : List Bool) (l : List α), ∀ p ∈ keepL bs l, p ∈ l
  | [], _, _, h => h
  | _ :: _, [], _, h => nomatch h
  | true :: bs, x :: l, p, h => by
    rcases List.mem_cons.mp h with rfl | h
    · exact List.mem_cons_self
    · exact List.mem_cons_of_mem _ (keepL_sub bs l p h)
  | false :: bs, _ :: l, p, h => List.mem_cons_of_mem _ (keepL_sub bs l p h)
theorem keepN {h₀ h : Heap} {L : Addr} {news : List (Addr × Obj)} (N : News h₀ L h news) (bs : List Bool) : News h₀ L h (keepL bs news) := fun p hp => N p (keepL_sub bs news p hp)
end Mine
end
section
namespace Mine
def MidW (h₀ : Heap) (L : Addr) (m : Str → Option Value) (G : Int → Tok → List (Addr × Obj)) (B : Int) (s s' : Shared) : Prop :=
  ∃ (bud : Int) (t : Tok) (h : Heap) (tk : Nat), s' = { s with heap := h, toks := tk } ∧ Fr h₀ L h m ∧ News h₀ L h (G bud t) ∧ ((0 < B ∧ bud = B - 1) ∨ (¬ 0 < B ∧ bud = B))
section
variable {prog : Program} {w : World} {A : Around} {E : Value → Shared → Prop} {s : Shared} {env : Env} {Q : Flow → Shared → Prop} {h₀ : Heap} {L d xs C : Addr} {m : Str → Option Value} {news all : List (Addr × Obj)} {g : Obj → List (Addr × Obj)} {e1 e3 : DictEntry} {hb : Int} {kb : Value} {B bud : Int} {t t' : Tok} {n : Nat}
theorem MidW.mk {G : Int → Tok → List (Addr × Obj)} {h' : Heap} {tk : Nat} (F : Fr h₀ L h' m) (N : News h₀ L h' all) (sub : ∀ p ∈ G bud t', p ∈ all) (hp : (0 < B ∧ bud = B - 1) ∨ (¬ 0 < B ∧ bud = B)) : MidW h₀ L m G B s { s with heap := h', toks := tk } :=
  ⟨bud, t', h', tk, rfl, F, fun p hq => N p (sub p hq), hp⟩
theorem cut_bud (F : Fr h₀ L s.heap m) (_N : News h₀ L s.heap news) (_hs : m (Str.ofString "self") = some (.ref xs)) (_hx : (xs, instObj C d) ∈ news) (_U : UpdF d (dictOf [e1, ⟨hb, kb, Value.int B t⟩, e3] n) news g) (a b : List Stmt)
    (h1 : wpAny (model prog w) A (execs a env) (fun f s' => match f with | .next => MidW h₀ L m (fun bud t => g (dictOf [e1, ⟨hb, kb, Value.int bud t⟩, e3] n)) B s s' | f => Q f s') E s)
    (h2 : ∀ (bud : Int) (t : Tok) (h : Heap) (tk : Nat), Fr h₀ L h m → News h₀ L h (g (dictOf [e1, ⟨hb, kb, Value.int bud t⟩, e3] n)) → ((0 < B ∧ bud = B - 1) ∨ (¬ 0 < B ∧ bud = B)) → wpAny (model prog w) A (execs b env) Q E { s with heap := h, toks := tk }) :
    wpAny (model prog w) A (execs (a ++ b) env) Q E s :=
  cut_at _ a b h1 (by
    rintro s' ⟨bud, t, h, tk, rfl, F', N', hp⟩
    exact h2 bud t h tk F' N' hp)
end
section
variable {rB bud b' : Int} {pre : List Int} {k : Int}
end
end Mine
end
section
namespace Mine
def HQ (P : Value → Shared → Prop) (v : Value) (s : Shared) : Prop := P v s
def HF (P : Flow → Shared → Prop) (f : Flow) (s : Shared) : Prop := P f s
section
variable {M : Model} {A : Around} {E : Value → Shared → Prop} {s : Shared}
theorem hideQ {c : Sem Value} {Q : Value → Shared → Prop} (h : ∀ P : Value → Shared → Prop, (∀ v s', Q v s' → HQ P v s') → wpAny M A c (HQ P) E s) : wpAny M A c Q E s := h Q (fun _ _ q => q)
theorem useHQ {P Q : Value → Shared → Prop} {v : Value} (h : ∀ v s', Q v s' → HQ P v s') (q : Q v s) : HQ P v s := h v s q
theorem hideF {c : Sem Flow} {Q : Flow → Shared → Prop} (h : ∀ P : Flow → Shared → Prop, (∀ f s', Q f s' → HF P f s') → wpAny M A c (HF P) E s) : wpAny M A c Q E s := h Q (fun _ _ q => q)
theorem useHF {P Q : Flow → Shared → Prop} {f : Flow} (h : ∀ f s', Q f s' → HF P f s') (q : Q f s) : HF P f s := h f s q
end
end Mine
end
section
namespace Mine
def RowMade (h₀ : Heap) (L : Addr) (m : Str → Option Value) (Pn : List Int → Prop) (R : List (Addr × Obj)) (s : Shared) (v : Value) (s' : Shared) : Prop :=
  ∃ (D : Addr) (c : Nat) (us : List Value) (ns : List Int) (h : Heap) (tk : Nat), v = .ref D ∧ s' = { s with heap := h, toks := tk } ∧ Fr h₀ L h m ∧ News h₀ L h ((D, listOf us.toArray c) :: R) ∧ (∀ q ∈ R, q.1 < D) ∧ IntsAre us ns ∧ Pn ns
section
variable {prog : Program} {w : World} {A : Around} {E : Value → Shared → Prop} {s : Shared} {h₀ : Heap} {L : Addr} {m : Str → Option Value} {R R' all big : List (Addr × Obj)} {Q : Value → Shared → Prop} {Pn : List Int → Prop}
theorem RowMade.mk {D : Addr} {c : Nat} {us : List Value} {ns : List Int} {h' : Heap} {tk : Nat} (F : Fr h₀ L h' m) (N : News h₀ L h' all) (hm : (D, listOf us.toArray c) ∈ all) (sR : ∀ p ∈ R, p ∈ all) (lt : ∀ q ∈ big, q.1 < D) (sb : ∀ p ∈ R, p ∈ big) (I : IntsAre us ns) (hp : Pn ns) : RowMade h₀ L m Pn R s (.ref D) { s with heap := h', toks := tk } :=
  ⟨D, c, us, ns, h', tk, rfl, rfl, F, fun p hp => by
    rcases List.mem_cons.mp hp with rfl | hp
    · exact N _ hm
    · exact N _ (sR p hp), fun q hq => lt q (sb q hq), I, hp⟩
theorem row_meet {c : Sem Value} (K : List (Addr × Obj)) (Pn : List Int → Prop) (F : Fr h₀ L s.heap m) (N : News h₀ L s.heap R) (sK : ∀ p ∈ K, p ∈ R)
    (h1 : ∀ R' : List (Addr × Obj), Fr h₀ L s.heap m → News h₀ L s.heap (K ++ R') → wpAny (model prog w) A c (RowMade h₀ L m Pn R' s) E s)
    (h2 : ∀ (D : Addr) (c : Nat) (us : List Value) (ns : List Int) (h : Heap) (tk : Nat), Fr h₀ L h m → News h₀ L h ((D, listOf us.toArray c) :: R) → (∀ q ∈ R, q.1 < D) → IntsAre us ns → Pn ns → Q (.ref D) { s with heap := h, toks := tk }) :
    wpAny (model prog w) A c Q E s :=
  wpAny_mono (h1 R F fun p hp => by
    rcases List.mem_append.mp hp with h | h
    · exact N p (sK p h)
    · exact N p h) (by
    rintro v s' ⟨D, c, us, ns, h, tk, rfl, rfl, F', N', lt, I, hp⟩
    exact h2 D c us ns h tk F' N' lt I hp) (fun _ _ x => x)
theorem row_meet1 {f : Value} {l : Addr} {o : Obj} (Pn : List Int → Prop) (F : Fr h₀ L s.heap m) (N : News h₀ L s.heap R) (hl : (l, o) ∈ R)
    (h1 : ∀ R' : List (Addr × Obj), Fr h₀ L s.heap m → News h₀ L s.heap ((l, o) :: R') → wpAny (model prog w) A (call f [.ref l]) (RowMade h₀ L m Pn R' s) E s)
    (h2 : ∀ (D : Addr) (c : Nat) (us : List Value) (ns : List Int) (h : Heap) (tk : Nat), Fr h₀ L h m → News h₀ L h ((D, listOf us.toArray c) :: R) → (∀ q ∈ R, q.1 < D) → IntsAre us ns → Pn ns → Q (.ref D) { s with heap := h, toks := tk }) :
    wpAny (model prog w) A (call f [.ref l]) Q E s :=
  row_meet [(l, o)] Pn F N (fun p hp => by rw [List.mem_singleton.mp hp]; exact hl) h1 h2
end
end Mine
end
section
namespace Mine
def IsRow (d : Dat) : Prop := ∃ r : List Int, d = Dat.list (r.map Dat.int) ∧ r.length = 16
inductive All2 {α β : Type} (R : α → β → Prop) : List α → List β → Prop
  | nil : All2 R [] []
  | cons {a b as bs} : R a b → All2 R as bs → All2 R (a :: as) (b :: bs)
theorem All2.length {α β : Type} {R : α → β → Prop} : ∀ {as : List α} {bs : List β}, All2 R as bs → as.length = bs.length
  | _, _, .nil => rfl
  | _, _, .cons _ r => by rw [List.length_cons, List.length_cons, r.length]
theorem All2.snoc {α β : Type} {R : α → β → Prop} {a : α} {b : β} : ∀ {as : List α} {bs : List β}, All2 R as bs → R a b → All2 R (as ++ [a]) (bs ++ [b])
  | _, _, .nil, h => .cons h .nil
  | _, _, .cons x r, h => .cons x (r.snoc h)
theorem All2.same {α : Type} : ∀ {as bs : List α}, All2 (fun a b => b = a) as bs → bs = as
  | _, _, .nil => rfl
  | _, _, .cons x r => by rw [x, r.same]
theorem ints_dat {news : List (Addr × Obj)} : ∀ {vs : List Value} {ns : List Int}, IntsAre vs ns → DatAll news vs (ns.map Dat.int)
  | _, _, .nil => .nil
  | _, _, .cons n t h => .cons (.int n t) (ints_dat h)
theorem dat_ints {news : List (Addr × Obj)} : ∀ {ns : List Int} {vs : List Value}, DatAll news vs (ns.map Dat.int) → IntsAre vs ns
  | [], _, h => by cases h; exact .nil
  | n :: ns, _, h => by
    cases h with
    | cons a r => cases a with | int _ t => exact .cons n t (dat_ints r)
theorem row_in {news : List (Addr × Obj)} {v : Value} {d : Dat} (h : DatIn news v d) (hr : IsRow d) : ∃ a us n ns, v = .ref a ∧ (a, listOf us.toArray n) ∈ news ∧ IntsAre us ns ∧ d = Dat.list (ns.map Dat.int) ∧ ns.length = 16 := by
  obtain ⟨r, rfl, hl⟩ := hr
  cases h with
  | list hm ha => exact ⟨_, _, _, r, rfl, hm, dat_ints ha, rfl, hl⟩
def RowEnd (expl tl0 tl : List (Addr × Obj)) (R : Dat → Prop) (y : Value) (nx : List (Addr × Obj)) : Prop := ∃ add d, nx = expl ++ (tl0 ++ (add ++ tl)) ∧ OwnOff add (expl.map (·.1)) ∧ DatIn (tl0 ++ (add ++ tl)) y d ∧ R d
theorem off1_own {D : Addr} {expl TL : List (Addr × Obj)} (h : LCg.Off1 D (expl ++ TL)) : OwnOff TL [D] := by
  have key : ∀ l : List (Addr × Obj), LCg.Off1 D l → ∀ p ∈ l, p.1 ≠ D := by
    intro l
    induction l with
    | nil => intro _ p hp; exact nomatch hp
    | cons q r ih =>
      intro h p hp
      rcases List.mem_cons.mp hp with rfl | hp
      · exact h.1
      · exact ih h.2 p hp
  intro p hp b hb
  rw [List.mem_singleton.mp hb]
  exact key _ h p (List.mem_append.mpr (.inr hp))
theorem DatAll.setD {news : List (Addr × Obj)} {v : Value} {d : Dat} (hv : DatIn news v d) : ∀ {vs : List Value} {ds : List Dat}, DatAll news vs ds → ∀ j : Nat, DatAll news (vs.set j v) (ds.set j d)
  | _, _, .nil, _ => .nil
  | _, _, .cons _ r, 0 => .cons hv r
  | _, _, .cons h r, j + 1 => .cons h (DatAll.setD hv r j)
section
variable {prog : Program} {w : World} {A : Around} {E : Value → Shared → Prop} {s : Shared} {h₀ : Heap} {L D : Addr} {m : Str → Option Value} {news news' : List (Addr × Obj)} {vs : List Value} {n : Nat} {k : Int} {t : Tok} {v : Value}
theorem mod_any {a c : Int} {t u : Tok} {Q : Value → Shared → Prop} (hc : 0 < c) (h : ∀ r : Int, 0 ≤ r → r < c → Q (.int r s.toks) { s with toks := s.toks + 1 }) : wpAny (model prog w) A (binaryOp .Mod (.int a t) (.int c u)) Q E s :=
  mod_int' (Int.ne_of_gt hc) (h _ (Int.fmod_nonneg_of_pos _ hc) (Int.fmod_lt_of_pos _ hc))
theorem copy_row {src : List (Addr × Obj)} {a : Addr} {us : List Value} {ns : List Int} {nn : Nat} {Q : Value → Shared → Prop} (F : Fr h₀ L s.heap m) (N : News h₀ L s.heap news) (hm : (a, listOf us.toArray nn) ∈ src) (sub : ∀ p ∈ src, p ∈ news) (hI : IntsAre us ns) (hl : ns.length = 16)
    (h : ∀ D c h', Fr h₀ L h' m → News h₀ L h' ((D, listOf us.toArray c) :: news) → (∀ q ∈ news, q.1 < D) → Q (.ref D) { s with heap := h' }) : wpAny (model prog w) A (call (.type "list") [.ref a]) Q E s :=
  list_copyK F N (N.isList (sub _ hm)) h (by rw [List.size_toArray, hI.length, hl, sizeLine_eq]; decide)
theorem set_any {Q : Unit → Shared → Prop} (F : Fr h₀ L s.heap m) (N : News h₀ L s.heap news) (U : Upd D (listOf vs.toArray n) (listOf (vs.set k.toNat v).toArray n) news news') (h0 : 0 ≤ k) (h1 : k < vs.length) (hfit : k < 2 ^ 63)
    (h : ∀ h', Fr h₀ L h' m → News h₀ L h' news' → Q () { s with heap := h' }) :
    wpAny (model prog w) A (setItem (.ref D) (.int k t) v) Q E s := by
  obtain ⟨pre, post, rfl, rfl, a, b⟩ := U.split
  have z := N (D, listOf vs.toArray n) (List.mem_append.mpr (.inr (.head _)))
  have hs : vs.toArray.size = vs.length := List.size_toArray ..
  refine ki_setAt z.1 h0 hfit (by omega) (h _ (F.change (Heap.SameBut.update ..) z.2.1 z.2.2) (ki_turn _ N a b ?_ ?_))
  · show vs.toArray.setIfInBounds k.toNat v = (vs.set k.toNat v).toArray
    apply Array.toList_inj.mp
    simp
  · simp
end
section
variable {prog : Program} {w : World} {A : Around} {h₀ : Heap} {L : Addr} {m : Str → Option Value} {env : Env} {elt : PySem.Expr} {x : Str} {scope : Scope} {cl : List (Str × Addr)} {s : Shared} {S : List (Addr × Obj) → Prop} {P : Nat → Value → Prop} {Fin : List Value → List (Addr × Obj) → Prop} {news : List (Addr × Obj)}
theorem compRows {τ : Type} {n : Nat} {ks : List τ} (It : τ → Value → Prop) (R : τ → Dat → Prop) {expl tl0 : List (Addr × Obj)} (hks : ks.length = n) (hP : ∀ i v, i < n → P i v → ∃ k, ks[i]? = some k ∧ It k v) (h0 : OwnOff tl0 (expl.map (·.1)))
    (turn : ∀ k v I oI C oC D m₂ ys tl h tk (E' : Value → Shared → Prop), k ∈ ks → It k v → LCg.NsObj oC m₂ → m₂ x = some v → Fr h₀ L h m →
      News h₀ L h ((I, oI) :: (C, oC) :: (D, LCg.lst ys) :: (expl ++ (tl0 ++ tl))) → LCg.Off3 I C D (expl ++ (tl0 ++ tl)) → ((@Ne Nat I C) ∧ (@Ne Nat I D) ∧ (@Ne Nat C D)) → KstMark → KdMark →
      wpAny (model prog w) A (eval elt (compEnvC scope cl C env)) (LCg.CompEnd h₀ L m { s with heap := h, toks := tk } I oI C oC D (LCg.lst ys) S (RowEnd expl tl0 tl (R k))) E' { s with heap := h, toks := tk })
    (fin : ∀ ys TL ds, (∀ p ∈ tl0, p ∈ TL) → OwnOff TL (expl.map (·.1)) → DatAll TL ys ds → All2 R ks ds → KstMark → KdMark → Fin ys (expl ++ TL)) : LCg.CompRest prog w A h₀ L m env elt x scope cl s S P Fin n 0 [] (expl ++ tl0) := by
  have key : ∀ (j i : Nat) (ys : List Value) (ds : List Dat) (tl : List (Addr × Obj)), i + j = n → OwnOff tl (expl.map (·.1)) → DatAll (tl0 ++ tl) ys ds → All2 R (ks.take i) ds → LCg.CompRest prog w A h₀ L m env elt x scope cl s S P Fin j i ys (expl ++ (tl0 ++ tl)) := by
    intro j
    induction j with
    | zero =>
      intro i ys ds tl hi ho hy hr
      have e : i = ks.length := by omega
      subst e
      rw [List.take_length] at hr
      refine LCg.CompRest.zero (fin ys (tl0 ++ tl) ds (fun p hp => List.mem_append.mpr (.inl hp)) ?_ hy hr kstMark kdMark)
      intro p hp
      rcases List.mem_append.mp hp with hp | hp
      · exact h0 p hp
      · exact ho p hp
    | succ j ih =>
      intro i ys ds tl hi ho hy hr
      refine LCg.CompRest.succ ?_
      intro v I oI C oC D m₂ h tk E' hv hC hx F N off ne
      obtain ⟨k, hk, hv'⟩ := hP i v (by omega) hv
      refine wpAny_mono (turn k v I oI C oC D m₂ ys tl h tk E' (List.mem_of_getElem? hk) hv' hC hx F N off ne kstMark kdMark) (fun y s₂ hq => ?_) fun _ _ e => e
      obtain ⟨h', tk', nw, e, F', N', off', hS, add, d, hn, hoff, hd, hRd⟩ := hq
      subst hn
      refine ⟨h', tk', _, e, F', N', off', hS, ?_⟩
      refine ih (i + 1) _ (ds ++ [d]) (add ++ tl) (by omega) ?_ ?_ ?_
      · intro p hp
        rcases List.mem_append.mp hp with hp | hp
        · exact hoff p hp
        · exact ho p hp
      · refine DatAll.append (DatAll.mono (fun p hp => ?_) hy) (DatAll.one hd)
        rcases List.mem_append.mp hp with hp | hp
        · exact List.mem_append.mpr (.inl hp)
        · exact List.mem_append.mpr (.inr (List.mem_append.mpr (.inr hp)))
      · rw [List.take_add_one, hk]
        exact All2.snoc hr hRd
  have := key n 0 [] [] [] (by omega) (fun _ hp => nomatch hp) .nil .nil
  rwa [List.append_nil] at this
theorem compCopy0 {vs : List Value} {ds : List Dat} {src expl : List (Addr × Obj)} (hd : DatAll src vs ds) (hr : ∀ d ∈ ds, IsRow d)
    (turn : ∀ a us nn ns I oI C oC D m₂ ys tl h tk (E' : Value → Shared → Prop), (a, listOf us.toArray nn) ∈ src → IntsAre us ns → ns.length = 16 → LCg.NsObj oC m₂ → m₂ x = some (.ref a) → Fr h₀ L h m →
      News h₀ L h ((I, oI) :: (C, oC) :: (D, LCg.lst ys) :: (expl ++ tl)) → LCg.Off3 I C D (expl ++ tl) → ((@Ne Nat I C) ∧ (@Ne Nat I D) ∧ (@Ne Nat C D)) → KstMark → KdMark →
      wpAny (model prog w) A (eval elt (compEnvC scope cl C env)) (LCg.CompEnd h₀ L m { s with heap := h, toks := tk } I oI C oC D (LCg.lst ys) S (RowEnd expl [] tl (fun e => e = Dat.list (ns.map Dat.int)))) E' { s with heap := h, toks := tk })
    (fin : ∀ ys TL, OwnOff TL (expl.map (·.1)) → DatAll TL ys ds → KstMark → KdMark → Fin ys (expl ++ TL)) :
    LCg.CompRest prog w A h₀ L m env elt x scope cl s S (fun i v => vs.toArray[i]? = some v) Fin vs.toArray.size 0 [] expl := by
  have := compRows (tl0 := []) (expl := expl) (ks := ds) (n := vs.toArray.size) (P := fun i v => vs.toArray[i]? = some v) (prog := prog) (w := w) (A := A) (h₀ := h₀) (L := L) (m := m) (env := env) (elt := elt) (x := x) (scope := scope) (cl := cl) (s := s) (S := S) (Fin := Fin)
    (fun d v => IsRow d ∧ DatIn src v d) (fun d e => e = d) (by rw [List.size_toArray]; exact hd.length.symm) (fun i v hi hv => by
      have hi' : i < ds.length := by rw [List.size_toArray, hd.length] at hi; exact hi
      obtain ⟨v', hv', hin⟩ := hd.get hi'
      have e : v' = v := by
        have q : vs[i]? = some v := by simpa using hv
        rw [hv'] at q
        exact Option.some.inj q
      subst e
      exact ⟨ds[i], List.getElem?_eq_getElem hi', hr _ (List.getElem_mem hi'), hin⟩) (fun _ hp => nomatch hp)
    (fun d v I oI C oC D m₂ ys tl h tk E' _ hv hC hx F N off ne k1 k2 => by
      obtain ⟨a, us, nn, ns, rfl, hm, hi, rfl, hl⟩ := row_in hv.2 hv.1
      exact turn a us nn ns I oI C oC D m₂ ys tl h tk E' hm hi hl hC hx F N off ne k1 k2)
    (fun ys TL es _ ho hd' hr' k1 k2 => by
      have e := All2.same hr'
      subst e
      exact fin ys TL ho hd' k1 k2)
  rwa [List.append_nil] at this
theorem row_end {h' : Heap} {tk n : Nat} {all expl tl0 tl : List (Addr × Obj)} {s₁ : Shared} {I C D a : Addr} {oI oC oD : Obj} {vs : List Value} {ns : List Int} {R : Dat → Prop} (F : Fr h₀ L h' m) (N : News h₀ L h' all)
    (sub : ∀ p ∈ (I, oI) :: (C, oC) :: (D, oD) :: (expl ++ (tl0 ++ ((a, listOf vs.toArray n) :: tl))), p ∈ all) (off : LCg.Off3 I C D (expl ++ (tl0 ++ tl))) (ha : (@Ne Nat a I) ∧ (@Ne Nat a C) ∧ (@Ne Nat a D)) (hadr : ∀ b ∈ expl.map (·.1), b ≠ a)
    (hS : S (expl ++ (tl0 ++ ((a, listOf vs.toArray n) :: tl)))) (hi : IntsAre vs ns) (hR : R (Dat.list (ns.map Dat.int))) :
    LCg.CompEnd h₀ L m s₁ I oI C oC D oD S (RowEnd expl tl0 tl R) (.ref a) { s₁ with heap := h', toks := tk } := by
  refine LCg.CompEnd.intro F N _ sub (LCg.Off3.of fun p hp => ?_) hS ⟨[(a, listOf vs.toArray n)], _, rfl, ?_, ?_, hR⟩
  · have o := off.mem
    rcases List.mem_append.mp hp with hp | hp
    · exact o p (List.mem_append.mpr (.inl hp))
    · rcases List.mem_append.mp hp with hp | hp
      · exact o p (List.mem_append.mpr (.inr (List.mem_append.mpr (.inl hp))))
      · rcases List.mem_cons.mp hp with rfl | hp
        · exact ha
        · exact o p (List.mem_append.mpr (.inr (List.mem_append.mpr (.inr hp))))
  · intro p hp b hb
    rw [List.mem_singleton.mp hp]
    exact (hadr b hb).symm
  · exact DatIn.list (List.mem_append.mpr (.inr (List.mem_cons_self ..))) (ints_dat hi)
theorem row_end2 {h' : Heap} {tk n : Nat} {all expl tl0 tl : List (Addr × Obj)} {s₁ : Shared} {I C D a : Addr} {oI oC oD : Obj} {vs : List Value} {ns : List Int} {R : Dat → Prop} (F : Fr h₀ L h' m) (N : News h₀ L h' all)
    (sub : ∀ p ∈ (I, oI) :: (C, oC) :: (D, oD) :: (expl ++ (tl0 ++ ((a, listOf vs.toArray n) :: tl))), p ∈ all) (off : LCg.Off3 I C D (expl ++ (tl0 ++ tl))) (lt : ∀ p ∈ (I, oI) :: (C, oC) :: (D, oD) :: (expl ++ (tl0 ++ tl)), p.1 < a)
    (hS : S (expl ++ (tl0 ++ ((a, listOf vs.toArray n) :: tl)))) (hi : IntsAre vs ns) (hR : R (Dat.list (ns.map Dat.int))) :
    LCg.CompEnd h₀ L m s₁ I oI C oC D oD S (RowEnd expl tl0 tl R) (.ref a) { s₁ with heap := h', toks := tk } := by
  refine row_end F N sub off ⟨?_, ?_, ?_⟩ ?_ hS hi hR
  · exact Ne.symm (Nat.ne_of_lt (lt (I, oI) List.mem_cons_self))
  · exact Ne.symm (Nat.ne_of_lt (lt (C, oC) (List.mem_cons_of_mem _ List.mem_cons_self)))
  · exact Ne.symm (Nat.ne_of_lt (lt (D, oD) (List.mem_cons_of_mem _ (List.mem_cons_of_mem _ List.mem_cons_self))))
  · intro b hb
    obtain ⟨p, hp, rfl⟩ := List.mem_map.mp hb
    exact Nat.ne_of_lt (lt p (List.mem_cons_of_mem _ (List.mem_cons_of_mem _ (List.mem_cons_of_mem _ (List.mem_append.mpr (.inl hp))))))
end
abbrev zrow : Dat := Dat.list ((List.replicate 16 (0 : Int)).map Dat.int)
def zf (pre : List Int) (ds : List Dat) : List Dat := pre.foldl (fun M p => M.set p.toNat zrow) ds
section
variable {prog : Program} {w : World} {A : Around} {E : Value → Shared → Prop} {s : Shared} {h₀ : Heap} {L D a : Addr} {m : Str → Option Value} {news news' src : List (Addr × Obj)} {vs us : List Value} {ds : List Dat} {ns : List Int} {n nn : Nat} {k : Int} {t : Tok}
end
end Mine
end
section
open PySem.Calls
namespace Mine
section
variable {prog : Program} {w : World} {A : Around} {E : Value → Shared → Prop} {s : Shared} {a b : Int} {t u : Tok} {Q : Value → Shared → Prop}
theorem eq_yes (h : a = b) (hq : Q (.bool true) s) : wpAny (model prog w) A (compareOp .Eq (.int a t) (.int b u)) Q E s := eq_int (by rw [h, beq_self_eq_true]; exact hq)
theorem eq_no (h : a ≠ b) (hq : Q (.bool false) s) : wpAny (model prog w) A (compareOp .Eq (.int a t) (.int b u)) Q E s := eq_int (by rw [beq_false_of_ne h]; exact hq)
theorem ne_no (h : a = b) (hq : Q (.bool false) s) : wpAny (model prog w) A (compareOp .NotEq (.int a t) (.int b u)) Q E s := ne_int (by rw [h, bne_self_eq_false]; exact hq)
theorem gt_no (h : ¬ b < a) (hq : Q (.bool false) s) : wpAny (model prog w) A (compareOp .Gt (.int a t) (.int b u)) Q E s := gt_int (by rw [decide_eq_false h]; exact hq)
theorem gt_yes (h : b < a) (hq : Q (.bool true) s) : wpAny (model prog w) A (compareOp .Gt (.int a t) (.int b u)) Q E s := gt_int (by rw [decide_eq_true h]; exact hq)
end
theorem row_ok {d : Dat} (h : IsRow d) : kqdOk 8 d = true := by
  obtain ⟨r, rfl, _⟩ := h
  simp only [kqdOk, List.all_eq_true]
  intro x hx
  obtain ⟨i, _, rfl⟩ := List.mem_map.mp hx
  rfl
section
variable {prog : Program} {w : World} {A : Around} {E : Value → Shared → Prop} {s : Shared} {h₀ : Heap} {L a b : Addr} {news n₁ n₂ : List (Addr × Obj)} {xs ys : List Value} {ka kb : Nat} {ds es : List Dat} {Q : Value → Shared → Prop}
theorem ne_rows (N : News h₀ L s.heap news) (ma : (a, listOf xs.toArray ka) ∈ news) (Da : DatAll n₁ xs ds) (sa : ∀ p ∈ n₁, p ∈ news) (mb : (b, listOf ys.toArray kb) ∈ news) (Db : DatAll n₂ ys es) (sb : ∀ p ∈ n₂, p ∈ news)
    (hr : ∀ d ∈ ds, IsRow d) (e : ds = es) (hu : A.units + 64 < cLine) (h : Q (.bool false) s) : wpAny (model prog w) A (compareOp .NotEq (.ref a) (.ref b)) Q E s := by
  have ha : ∀ d ∈ ds, kqdOk 8 d = true := fun d hd => row_ok (hr d hd)
  refine kqd_ne N ma rfl rfl Da sa mb rfl rfl Db sb ha (e ▸ ha) hu ?_
  have e' : ∀ i : Decidable (ds = es), (!@decide (ds = es) i) = false := fun i => by rw [@decide_eq_true _ i e]; rfl
  rw [e']
  exact h
end
section
variable {prog : Program} {w : World} {A : Around} {E : Value → Shared → Prop} {s : Shared} {h₀ : Heap} {L D a : Addr} {m : Str → Option Value} {news news' src : List (Addr × Obj)} {vs us : List Value} {ds : List Dat} {ns : List Int} {n nn : Nat} {k : Int} {t : Tok}
end
section
variable {R : Int → Dat → Prop} {ds : List Dat} {rG rS kN : Int} {n : Nat}
theorem len9 (al : All2 R (rangeKs 0 (1 + (1 + rG) + (1 + rS) - 0).toNat) ds) (g : 0 ≤ rG) (h : 0 ≤ rS) : (ds.length : Int) = 3 + rG + rS := by rw [← al.length, rangeKs_length]; omega
end
theorem off1_ne {D : Addr} : ∀ {l : List (Addr × Obj)}, LCg.Off1 D l → ∀ p ∈ l, p.1 ≠ D
  | [], _, p, hp => nomatch hp
  | q :: r, h, p, hp => by
    rcases List.mem_cons.mp hp with rfl | hp
    · exact h.1
    · exact off1_ne h.2 p hp
theorem off1_at {D b : Addr} {o : Obj} {l : List (Addr × Obj)} (h : LCg.Off1 D l) (hm : (b, o) ∈ l) : b ≠ D := off1_ne h _ hm
section
variable {prog : Program} {w : World} {A₀ : Around} {E : Value → Shared → Prop} {s' : Shared} {h₀ h : Heap} {outer : List Env} {L a e t : Addr} {m : Str → Option Value} {name : Str} {scope : Scope} {cd : Value} {cl : List (Str × Addr)}
  {vs : List Value} {b₀ : Stmt} {suite : List Stmt} {pos np : Pos} {rest : List ExceptHandler} {Q : Flow → Shared → Prop} {news : List (Addr × Obj)} {KF : Frag} {C : Addr} {bmB : List Value} {newId : String}
  {p : Program} {loose : List Str} {mg mb : Str → Option Value} {x : Str}
theorem caught_C0 (K : Below A₀ h₀ outer h₀) (F : Fr h₀ L h m) (hsm : h.UpToSlots s'.heap) (R : RaisedK h₀ (envX name scope L a cd cl :: outer) e (.ref C) t vs news s'.heap)
    (X : KF.In h₀) (T : TopRead p loose mg mb h₀) (ex : nsIn KF mainGlobals x = some (some (.ref C))) (q : excIn KF C bmB newId = true) (hbase : bmB.contains (.type "BaseException") = true)
    (k : ∀ h', Fr h₀ L h' m → News h₀ L h' news →
      wpAny (model prog w) ((A₀.deeper (envX name scope L a cd cl)).mark (some (.ref e))) (execs (b₀ :: suite) (envX name scope L a cd cl)) Q E { s' with heap := h' })
    (hk : scope.kind = .function) (hx : (envX name scope L a cd cl).kindOf x = some .globalImplicit) (hd : (x == ("__debug__" : Str)) = false)
    (hE : PassesOwnAt (model prog w) ((A₀.deeper (envX name scope L a cd cl)).mark (some (.ref e))) (A₀.deeper (envX name scope L a cd cl)) (envX name scope L a cd cl) E) :
    wpAny (model prog w) (A₀.deeper (envX name scope L a cd cl)) (noteFrame (.ref e) (envX name scope L a cd cl))
      (fun _ s₂ => wpAny (model prog w) (A₀.deeper (envX name scope L a cd cl)) (setFlight (.ref e) none) (fun _ s₃ =>
        wpAny (model prog w) (A₀.deeper (envX name scope L a cd cl)) (handleBy (.ref e) (envX name scope L a cd cl) (.ExceptHandler (some (.Name x np)) none (b₀ :: suite) pos :: rest)) Q E s₃) E s₂) E s' := by
  obtain ⟨⟨B, hB, hl, hfl, _⟩, _⟩ := R
  have hL : B.get? L = none := by
    obtain ⟨_, ⟨L', _, hf, hn', _⟩, _⟩ := hfl.2.2.1
    obtain rfl : L = L' := Option.some.inj hf
    exact hn'
  refine wpAny_looks_onW (Around.frames_deeper K.stack) rfl hfl fun h₄ hheld₄ hsm₄ => wpAny_landsW hheld₄ fun h₅ hheld hsm₅ => ?_
  have F₅ := F.of_stays (flyingW_base hB hheld).1 (hsm.trans (hsm₄.trans hsm₅))
  obtain ⟨ob, hob, hobc⟩ := (flyingW_base hB hheld).there
  refine wpAny_handleBy_cons (codeAny_handlers_test (nameX_K F₅ X T ex ?_ hk hx hd)) (by intro q; cases q)
  obtain ⟨_, _, _, _, _, _, _, _, _, _, _, _, _, _, _, _, _, hC, _, _, TL⟩ := ((own_of_in X T ex q).keeps F₅.keep).obj
  refine wpAny_excMatches_sub_self hC hob hobc (TL.hasType hbase) (codeAny_handlers_suite ?_)
  refine lands_againW hheld fun h₆ hfl₆ hsm₆ => wpAny_passesOwnAt hE (k h₆ (F.of_stays (flyingW_base hB hfl₆).1 ((hsm.trans (hsm₄.trans hsm₅)).trans hsm₆)) fun q hq => ?_)
  exact ⟨hfl₆.1 _ _ (hl q hq).1, (fun z => by have := (hl q hq).1; rw [z, hL] at this; cases this), (hl q hq).2⟩
end
section
variable {rB rS bud : Int} {n : Nat}
theorem t1 (h : rB - 1 = -1) : rB - 1 ≠ 0 := by omega
theorem t3 (h : ¬ rB - 1 < 1 + rS + 1) (g : 0 ≤ rS) : rB - 1 ≠ 0 := by omega
theorem u1 (h : rB - 1 = -1) (k : (rB - 1 = -1 ∧ bud = -1) ∨ (0 ≤ rB - 1 ∧ 0 ≤ bud ∧ bud = rB - 1 - (1 + (n : Int)))) : bud ≠ 0 := by omega
theorem u3 (h : ¬ rB - 1 < 1 + rS + 1) (k : (rB - 1 = -1 ∧ bud = -1) ∨ (0 ≤ rB - 1 ∧ 0 ≤ bud ∧ bud = rB - 1 - (1 + (n : Int)))) (l : n < (1 + rS - 0).toNat) (g : 0 ≤ rS) : bud ≠ 0 := by omega
end
theorem ne_chain {l : List (Addr × Obj)} {b d x : Addr} {o : Obj} (h2 : @LT.lt Nat _ d x) (h1 : ∀ q ∈ l, q.1 < d) (hm : (b, o) ∈ l) : x ≠ b := fun e => by
  have h := h1 _ hm
  have h3 : @LT.lt Nat _ b d := h
  rw [← e] at h3
  exact absurd (Nat.lt_trans h2 h3) (Nat.lt_irrefl _)
section
variable {B S : Int}
end
end Mine
end
section
namespace Mine
theorem own_nil {adr : List Addr} : OwnOff [] adr := fun _ hp => nomatch hp
theorem own_cons {a : Addr} {o : Obj} {r : List (Addr × Obj)} {adr : List Addr} (h : ∀ b ∈ adr, b ≠ a) (hr : OwnOff r adr) : OwnOff ((a, o) :: r) adr := fun p hp b hb => by
  rcases List.mem_cons.mp hp with rfl | hp
  · exact (h b hb).symm
  · exact hr p hp b hb
structure StA (rest : List (Addr × Obj)) (ls ln : Addr) (nv sv : List Value) (src : List (Addr × Obj)) (sd : List Dat) : Prop where
  one : DatAll src nv sd
  two : DatAll src sv sd
  ok : ∀ d ∈ sd, kqdOk 8 d = true
  off : OwnOff src (ln :: ls :: rest.map (·.1))
def MidA (h₀ : Heap) (L : Addr) (m : Str → Option Value) (ls : Addr) (rest : List (Addr × Obj)) (s s' : Shared) : Prop :=
  ∃ (ln : Addr) (nv sv : List Value) (n1 n2 : Nat) (src : List (Addr × Obj)) (sd : List Dat) (h : Heap) (tk : Nat) (u : Str → Option Value), s' = { s with heap := h, toks := tk } ∧
    Fr h₀ L h (fun y => if y = Str.ofString "i" then u y else kstB (fun z => if [Str.ofString "block"].contains z then u z else m z) [(Str.ofString "noted", Value.ref ln)] y) ∧
    News h₀ L h ((ln, listOf nv.toArray n1) :: (ls, listOf sv.toArray n2) :: (rest ++ src)) ∧ ((∀ q ∈ rest, q.1 < ln) ∧ ls ≠ ln) ∧ StA rest ls ln nv sv src sd
section
variable {prog : Program} {w : World} {A : Around} {E : Value → Shared → Prop} {s : Shared} {env : Env} {Q : Flow → Shared → Prop} {h₀ : Heap} {L : Addr} {m m' : Str → Option Value} {rest all : List (Addr × Obj)} {ls ln l0 : Addr} {nv sv : List Value} {n1 n2 : Nat} {src : List (Addr × Obj)} {sd : List Dat} {o0 o1 : Obj}
theorem MidA.mk (src : List (Addr × Obj)) {h' : Heap} {tk : Nat} (F : Fr h₀ L h' m') (N : News h₀ L h' all) (hk : ∀ p ∈ [(Str.ofString "noted", Value.ref ln)], m' p.1 = some p.2) (hr : ∀ z, z ≠ Str.ofString "i" → (∀ p ∈ [(Str.ofString "noted", Value.ref ln)], z ≠ p.1) → [Str.ofString "block"].contains z = false → m' z = m z)
    (mn : (ln, listOf nv.toArray n1) ∈ all) (ms : (ls, listOf sv.toArray n2) ∈ all) (sr : ∀ p ∈ rest, p ∈ all) (ss : ∀ p ∈ src, p ∈ all) (lt : ∀ q ∈ rest, q.1 < ln) (ne : ls ≠ ln) (one : DatAll src nv sd) (two : DatAll src sv sd) (ok : ∀ d ∈ sd, kqdOk 8 d = true) (off : OwnOff src (ln :: ls :: rest.map (·.1))) :
    MidA h₀ L m ls rest s { s with heap := h', toks := tk } :=
  ⟨ln, nv, sv, n1, n2, src, sd, h', tk, m', rfl, kst_frOut hk hr F, fun p hp => by
    rcases List.mem_cons.mp hp with rfl | hp
    · exact N _ mn
    · rcases List.mem_cons.mp hp with rfl | hp
      · exact N _ ms
      · rcases List.mem_append.mp hp with hp | hp
        · exact N _ (sr p hp)
        · exact N _ (ss p hp), ⟨lt, ne⟩, one, two, ok, off⟩
theorem ne_dat {xs ys : List Value} {ka kb : Nat} {a b : Addr} {news n₁ n₂ : List (Addr × Obj)} {ds : List Dat} {Q : Value → Shared → Prop} (N : News h₀ L s.heap news) (ma : (a, listOf xs.toArray ka) ∈ news) (Da : DatAll n₁ xs ds) (sa : ∀ p ∈ n₁, p ∈ news) (mb : (b, listOf ys.toArray kb) ∈ news) (Db : DatAll n₂ ys ds) (sb : ∀ p ∈ n₂, p ∈ news)
    (ha : ∀ d ∈ ds, kqdOk 8 d = true) (hu : A.units + 64 < cLine) (h : Q (.bool false) s) : wpAny (model prog w) A (compareOp .NotEq (.ref a) (.ref b)) Q E s := by
  refine kqd_ne N ma rfl rfl Da sa mb rfl rfl Db sb ha ha hu ?_
  have e' : ∀ i : Decidable (ds = ds), (!@decide (ds = ds) i) = false := fun i => by rw [@decide_eq_true _ i rfl]; rfl
  rw [e']
  exact h
theorem ints_ok (ns : List Int) : kqdOk 7 (Dat.list (ns.map Dat.int)) = true := by
  simp only [kqdOk, List.all_eq_true]
  intro x hx
  obtain ⟨i, _, rfl⟩ := List.mem_map.mp hx
  rfl
theorem MidA.staged {D4 D5 D6 l2 : Addr} {i : Int} {t t' : Tok} {k4 k5 k6 k2 : Nat} {v6 v2 : List Value} {ns : List Int} {h' : Heap} {tk : Nat} (F : Fr h₀ L h' m') (N : News h₀ L h' all) (hk : ∀ p ∈ [(Str.ofString "noted", Value.ref ln)], m' p.1 = some p.2) (hr : ∀ z, z ≠ Str.ofString "i" → (∀ p ∈ [(Str.ofString "noted", Value.ref ln)], z ≠ p.1) → [Str.ofString "block"].contains z = false → m' z = m z)
    (mn : (ln, listOf [Value.ref D4].toArray n1) ∈ all) (ms : (ls, listOf [Value.ref D5].toArray n2) ∈ all) (m4 : (D4, ({ cls := .type "tuple", data := .seq [Value.int i t, Value.ref l2].toArray k4 } : Obj)) ∈ all) (m5 : (D5, ({ cls := .type "tuple", data := .seq [Value.int i t', Value.ref D6].toArray k5 } : Obj)) ∈ all)
    (m6 : (D6, listOf v6.toArray k6) ∈ all) (m2 : (l2, listOf v2.toArray k2) ∈ all) (I6 : IntsAre v6 ns) (I2 : IntsAre v2 ns) (sr : ∀ p ∈ rest, p ∈ all) (lt : ∀ q ∈ rest, q.1 < ln) (ne : ls ≠ ln)
    (o4 : ∀ b ∈ ln :: ls :: rest.map (·.1), b ≠ D4) (o5 : ∀ b ∈ ln :: ls :: rest.map (·.1), b ≠ D5) (o6 : ∀ b ∈ ln :: ls :: rest.map (·.1), b ≠ D6) (o2 : ∀ b ∈ ln :: ls :: rest.map (·.1), b ≠ l2) : MidA h₀ L m ls rest s { s with heap := h', toks := tk } := by
  refine MidA.mk (sd := [Dat.tuple [Dat.int i, Dat.list (ns.map Dat.int)]]) [(D4, ({ cls := .type "tuple", data := .seq [Value.int i t, Value.ref l2].toArray k4 } : Obj)), (D5, ({ cls := .type "tuple", data := .seq [Value.int i t', Value.ref D6].toArray k5 } : Obj)), (D6, listOf v6.toArray k6), (l2, listOf v2.toArray k2)] F N hk hr mn ms sr ?_ lt ne ?_ ?_ ?_ (own_cons o4 (own_cons o5 (own_cons o6 (own_cons o2 own_nil))))
  · exact List.forall_mem_cons.mpr ⟨m4, List.forall_mem_cons.mpr ⟨m5, List.forall_mem_cons.mpr ⟨m6, List.forall_mem_cons.mpr ⟨m2, List.forall_mem_nil _⟩⟩⟩⟩
  · exact DatAll.one (DatIn.tuple List.mem_cons_self (.cons (.int _ _) (.cons (DatIn.list (List.mem_cons_of_mem _ (List.mem_cons_of_mem _ (List.mem_cons_of_mem _ List.mem_cons_self))) (ints_dat I2)) .nil)))
  · exact DatAll.one (DatIn.tuple (List.mem_cons_of_mem _ List.mem_cons_self) (.cons (.int _ _) (.cons (DatIn.list (List.mem_cons_of_mem _ (List.mem_cons_of_mem _ List.mem_cons_self)) (ints_dat I6)) .nil)))
  · intro d hd
    rw [List.mem_singleton.mp hd]
    have := ints_ok ns
    simp only [kqdOk, List.all_cons, List.all_nil, Bool.and_true] at this ⊢
    exact this
end
def Usable (o : Obj) : Prop := ∃ (us : List Value) (n : Nat) (ns : List Int), o = listOf us.toArray n ∧ IntsAre us ns
theorem rows_move {src src' : List (Addr × Obj)} (hs : ∀ p ∈ src, Usable p.2 → p ∈ src') : ∀ {vs : List Value} {ds : List Dat}, DatAll src vs ds → (∀ d ∈ ds, IsRow d) → DatAll src' vs ds
  | _, _, .nil, _ => .nil
  | _, _, .cons h r, hr => by
    refine .cons ?_ (rows_move hs r fun d hd => hr d (List.mem_cons_of_mem _ hd))
    obtain ⟨a, us, n, ns, rfl, hm, hi, rfl, hl⟩ := row_in h (hr _ List.mem_cons_self)
    exact DatIn.list (hs _ hm ⟨us, n, ns, rfl, hi⟩) (ints_dat hi)
theorem no_dict {es : List DictEntry} {n : Nat} : ¬ Usable (dictOf es n) := by
  rintro ⟨us, k, ns, e, _⟩
  have := congrArg Obj.data e
  cases this
theorem no_rows {src : List (Addr × Obj)} {ys : List Value} {ds : List Dat} {k : Nat} (h : DatAll src ys ds) (hr : ∀ d ∈ ds, IsRow d) (h0 : 0 < ds.length) : ¬ Usable (listOf ys.toArray k) := by
  rintro ⟨us, n, ns, e, hi⟩
  have e1 : ys.toArray = us.toArray := by
    have := congrArg Obj.data e
    injection this
  have e2 : ys = us := by simpa using e1
  subst e2
  cases h with
  | nil => exact absurd h0 (Nat.lt_irrefl _)
  | cons a r =>
    obtain ⟨_, _, _, _, rfl, _⟩ := row_in a (hr _ List.mem_cons_self)
    cases hi
open Classical in
noncomputable def usables (src : List (Addr × Obj)) : List (Addr × Obj) := src.filter fun p => decide (Usable p.2)
open Classical in
theorem mem_usables {src : List (Addr × Obj)} {p : Addr × Obj} (h : p ∈ usables src) : p ∈ src ∧ Usable p.2 := by
  have := List.mem_filter.mp h
  exact ⟨this.1, of_decide_eq_true this.2⟩
open Classical in
theorem usables_mem {src : List (Addr × Obj)} {p : Addr × Obj} (h : p ∈ src) (hu : Usable p.2) : p ∈ usables src := List.mem_filter.mpr ⟨h, decide_eq_true hu⟩
section
variable {prog : Program} {w : World} {A : Around} {E : Value → Shared → Prop} {s : Shared} {env : Env} {Q : Flow → Shared → Prop} {h₀ : Heap} {L : Addr} {m m' : Str → Option Value} {rest all big : List (Addr × Obj)} {aw ln ls x d ab x1 d1 : Addr} {ow on os ox od ob ox1 : Obj} {g1 g2 g3 g4 : Addr × Obj} {e1 : DictEntry} {hb hw : Int} {kb kw vb vw : Value} {n3 : Nat} {wv : List Value} {wds ds0 : List Dat} {dn lf : Int} {du : Bool} {ord : List Int}
def MidC (h₀ : Heap) (L : Addr) (m : Str → Option Value) (Led : List Value → Nat → Int → Tok → Int → Tok → Nat → List (Addr × Obj)) (wv : List Value) (wds ds0 : List Dat) (dn lf : Int) (du : Bool) (ord : List Int) (s s' : Shared) : Prop :=
  ∃ (bv : List Value) (nb : Nat) (t1 t2 : Tok) (n4 : Nat) (bl : List (Addr × Obj)) (S : List (Addr × Obj)) (h : Heap) (tk : Nat) (u : Str → Option Value), s' = { s with heap := h, toks := tk } ∧
    Fr h₀ L h (fun y => if y = Str.ofString "zz" then u y else kstB (fun z => if ([] : List Str).contains z then u z else m z) [(Str.ofString "lost", Value.bool du), (Str.ofString "got", Value.none)] y) ∧
    News h₀ L h (Led bv nb lf t1 dn t2 n4 ++ (bl ++ S)) ∧ DatAll bl bv (zf (ord.take dn.toNat) ds0) ∧ DatAll S wv wds
theorem MidC.mk {Led : List Value → Nat → Int → Tok → Int → Tok → Nat → List (Addr × Obj)} {bv : List Value} {nb : Nat} {t1 t2 : Tok} {n4 : Nat} {bl : List (Addr × Obj)} {bds : List Dat} {lo : Bool} {bud wr : Int} {h' : Heap} {tk : Nat} (F : Fr h₀ L h' m') (N : News h₀ L h' all)
    (hk : ∀ p ∈ [(Str.ofString "lost", Value.bool lo), (Str.ofString "got", Value.none)], m' p.1 = some p.2) (hr : ∀ z, z ≠ Str.ofString "zz" → (∀ p ∈ [(Str.ofString "lost", Value.bool lo), (Str.ofString "got", Value.none)], z ≠ p.1) → ([] : List Str).contains z = false → m' z = m z)
    (ml : ∀ p ∈ Led bv nb bud t1 wr t2 n4, p ∈ all) (hd : DatAll bl bv bds) (sb : ∀ p ∈ bl, p ∈ all) (hw : DatAll big wv wds) (hwr : ∀ d ∈ wds, IsRow d) (hbig : ∀ p ∈ big, Usable p.2 → p ∈ all)
    (q1 : lo = du) (q2 : bud = lf) (q3 : wr = dn) (q4 : bds = zf (ord.take dn.toNat) ds0) : MidC h₀ L m Led wv wds ds0 dn lf du ord s { s with heap := h', toks := tk } := by
  subst q1; subst q2; subst q3; subst q4
  refine ⟨bv, nb, t1, t2, n4, bl, usables big, h', tk, m', rfl, kst_frOut hk hr F, fun p hp => ?_, hd, rows_move (fun p hp hu => usables_mem hp hu) hw hwr⟩
  rcases List.mem_append.mp hp with hp | hp
  · exact N _ (ml p hp)
  · rcases List.mem_append.mp hp with hp | hp
    · exact N _ (sb p hp)
    · exact N _ (hbig p (mem_usables hp).1 (mem_usables hp).2)
end
section
variable {rB rS rG dn lf bud : Int} {du : Bool} {ds9 : List Dat} {n : Nat} {ord : List Int}
end
section
variable {prog : Program} {w : World} {A : Around} {E : Value → Shared → Prop} {s : Shared} {B : Int} {t u : Tok} {Q : Value → Shared → Prop}
end
end Mine
end
section
namespace Mine
def mstep (k v : Int) (s : List (Int × Int) × Bool) (p : Int × Int) : List (Int × Int) × Bool :=
  if p.1 = k then s else if s.2 = false ∧ k < p.1 then (s.1 ++ [(k, v)] ++ [p], true) else (s.1 ++ [p], s.2)
def mput (ps : List (Int × Int)) (k v : Int) : List (Int × Int) :=
  let s := ps.foldl (mstep k v) ([], false)
  if s.2 then s.1 else s.1 ++ [(k, v)]
def mall (D : List (Int × Int)) : List (Int × Int) := D.foldl (fun o p => mput o p.1 p.2) []
theorem mall_snoc (D : List (Int × Int)) (k v : Int) : mall (D ++ [(k, v)]) = mput (mall D) k v := by simp [mall]
theorem mall2 (a b c d : Int) (h : a ≠ c) : mall [(a, b), (c, d)] = if a < c then [(a, b), (c, d)] else [(c, d), (a, b)] := by
  by_cases h1 : a < c
  · have h2 : ¬ c < a := by omega
    simp [mall, mput, mstep, h, h1, h2]
  · have h2 : c < a := by omega
    simp [mall, mput, mstep, h, h1, h2]
theorem mall3 (a b c d e f : Int) (h : a ≠ c) (h' : a ≠ e) (h'' : c ≠ e) : mall [(a, b), (c, d), (e, f)] =
    if a < c then (if c < e then [(a, b), (c, d), (e, f)] else if a < e then [(a, b), (e, f), (c, d)] else [(e, f), (a, b), (c, d)])
    else (if a < e then [(c, d), (a, b), (e, f)] else if c < e then [(c, d), (e, f), (a, b)] else [(e, f), (c, d), (a, b)]) := by
  rw [show [(a, b), (c, d), (e, f)] = [(a, b), (c, d)] ++ [(e, f)] from rfl, mall_snoc, mall2 a b c d h]
  have g1 : (c < a) ↔ ¬ a < c := by omega
  have g2 : (e < a) ↔ ¬ a < e := by omega
  have g3 : (e < c) ↔ ¬ c < e := by omega
  have h3' := h'.symm
  by_cases h1 : a < c <;> by_cases h2 : c < e <;> by_cases h3 : a < e <;> first
    | (exfalso; omega)
    | (simp only [h1, h2, h3, if_true, if_false]; simp [mput, mstep, h, h', h'', g1, g2, g3, h1, h2, h3])
end Mine
end
section
namespace Mine
def Hid (P : Prop) : Prop := P
theorem byte8 (n : Int) : 0 ≤ n.fmod 256 ∧ n.fmod 256 ≤ 255 := by
  have h1 := Int.fmod_nonneg_of_pos n (show (0 : Int) < 256 by decide)
  have h2 := Int.fmod_lt_of_pos n (show (0 : Int) < 256 by decide)
  omega
abbrev bd (c i : Int) : List Int := [1, c.fmod 256, 0, 0, i, 0, 0, (c.fdiv 256).fmod 256, i] ++ [0, 0, 0, 0, 0, 0]
def Bi (c i : Int) : List Int := if c.fmod 3 = 0 then List.replicate 16 0 else bd c i ++ [(bd c i).sum.fmod 256]
abbrev kv (c i : Int) : Int × Int := ((c.fmod 256) * 16777216 + i, ((c.fdiv 256).fmod 256) * 256 + i)
variable {bl : List Int} {c i x : Int}
theorem Bi0 (h : c.fmod 3 = 0) : Bi c i = List.replicate 16 0 := by unfold Bi; rw [if_pos h]
theorem Bi1 (h : c.fmod 3 ≠ 0) : Bi c i = bd c i ++ [(bd c i).sum.fmod 256] := by unfold Bi; rw [if_neg h]
theorem Bi_len (c i : Int) : (Bi c i).length = 16 := by
  by_cases h : c.fmod 3 = 0
  · rw [Bi0 h]; rfl
  · rw [Bi1 h]; rfl
theorem C_len (e : Hid (bl = Bi c i)) : (bl.length : Int) = 16 := by
  unfold Hid at e; rw [e, Bi_len]; rfl
theorem C_rng (e : Hid (bl = Bi c i)) (h0 : 0 ≤ i) (h1 : i < 3) (hx : x ∈ bl) : 0 ≤ x ∧ x ≤ 255 := by
  unfold Hid at e
  rw [e] at hx
  by_cases h : c.fmod 3 = 0
  · rw [Bi0 h] at hx
    rw [(List.mem_replicate.mp hx).2]
    decide
  · rw [Bi1 h] at hx
    simp only [bd, List.cons_append, List.nil_append, List.mem_cons, List.not_mem_nil, or_false] at hx
    rcases hx with h | h | h | h | h | h | h | h | h | h | h | h | h | h | h | h <;> subst h <;> first | exact byte8 _ | decide | omega
theorem C_lo (e : Hid (bl = Bi c i)) (h0 : 0 ≤ i) (h1 : i < 3) (hx : x ∈ bl) : ¬ x < 0 := by have := C_rng e h0 h1 hx; omega
theorem C_hi (e : Hid (bl = Bi c i)) (h0 : 0 ≤ i) (h1 : i < 3) (hx : x ∈ bl) : ¬ x > 255 := by have := C_rng e h0 h1 hx; omega
theorem C_seal (e : Hid (bl = Bi c i)) : bl.getD (Int.toNat 15) 0 = (List.take 15 bl).sum.fmod 256 := by
  unfold Hid at e
  rw [e]
  by_cases h : c.fmod 3 = 0
  · rw [Bi0 h]; rfl
  · rw [Bi1 h]; rfl
theorem C_f0 (e : Hid (bl = Bi c i)) (h : c.fmod 3 = 0) : bl.getD (Int.toNat 0) 0 = 0 := by unfold Hid at e; rw [e, Bi0 h]; rfl
theorem C_f1 (e : Hid (bl = Bi c i)) (h : c.fmod 3 ≠ 0) : bl.getD (Int.toNat 0) 0 = 1 := by unfold Hid at e; rw [e, Bi1 h]; rfl
theorem C_pad (e : Hid (bl = Bi c i)) (hx : x ∈ List.take (min 15 bl.length - 9) (List.drop 9 bl)) : x = 0 := by
  unfold Hid at e
  rw [e] at hx
  by_cases h : c.fmod 3 = 0
  · rw [Bi0 h] at hx
    exact (List.mem_replicate.mp (List.mem_of_mem_drop (List.mem_of_mem_take hx))).2
  · rw [Bi1 h] at hx
    have : x ∈ ([0, 0, 0, 0, 0, 0] : List Int) := hx
    simpa using this
theorem C_nil (e : Hid (bl = Bi c i)) (h : c.fmod 3 = 0) (hx : x ∈ List.take (min 9 bl.length - 1) (List.drop 1 bl)) : x = 0 := by
  unfold Hid at e
  rw [e, Bi0 h] at hx
  exact (List.mem_replicate.mp (List.mem_of_mem_drop (List.mem_of_mem_take hx))).2
theorem C_key (e : Hid (bl = Bi c i)) (h : c.fmod 3 ≠ 0) : List.take (min 5 bl.length - 1) (List.drop 1 bl) = [c.fmod 256, 0, 0, i] := by unfold Hid at e; rw [e, Bi1 h]; rfl
theorem C_val (e : Hid (bl = Bi c i)) (h : c.fmod 3 ≠ 0) : List.take (min 9 bl.length - 5) (List.drop 5 bl) = [0, 0, (c.fdiv 256).fmod 256, i] := by unfold Hid at e; rw [e, Bi1 h]; rfl
end Mine
end
section
open PySem.Calls
set_option maxRecDepth 100000
set_option maxHeartbeats 4000000
namespace Mine
section
variable {prog : Program} {w : World} {A : Around} {E : Value → Shared → Prop} {s : Shared} {h₀ : Heap} {L a : Addr} {m : Str → Option Value} {news : List (Addr × Obj)} {vs : List Value}
theorem sort_short {n : Nat} {P : PySem.Fin → Shared → Prop} (F : Fr h₀ L s.heap m) (N : News h₀ L s.heap news) (ho : s.heap.get? a = some (seqObj "list" vs.toArray n)) (haL : a ≠ L) (ha0 : h₀.get? a = none) (hna : ∀ p ∈ news, p.1 ≠ a) (h2 : vs.length < 2)
    (h : ∀ c h', Fr h₀ L h' m → News h₀ L h' ((a, seqObj "list" vs.toArray c) :: news) → P (.done (.ret .none)) { s with heap := h' }) :
    wpAny (model prog w) A (Builtin.«list.sort» ⟨[.ref a], []⟩) P E s := by
  have s1 := Heap.SameBut.update s.heap a (Obj.mapSeq fun _ => (#[] : Array Value))
  obtain ⟨e1, ho1⟩ : ∃ e1, (s.heap.update a (Obj.mapSeq fun _ => (#[] : Array Value))).get? a = some (seqObj "list" #[] e1) := ⟨_, get?_update_seq ho fun _ => #[]⟩
  have F3 : Fr h₀ L (((s.heap.update a (Obj.mapSeq fun _ => (#[] : Array Value))).push (seqObj "tuple" vs.toArray 0)).push (seqObj "list" #[] 0)) m := ((kas_fr F s1 haL ha0).push _).push _
  have N2 : News h₀ L (((s.heap.update a (Obj.mapSeq fun _ => (#[] : Array Value))).push (seqObj "tuple" vs.toArray 0)).push (seqObj "list" #[] 0)) news :=
    (kas_news N s1 hna).grown fun b x e => Heap.get?_push_of_some _ (Heap.get?_push_of_some _ e)
  have ho3 : (((s.heap.update a (Obj.mapSeq fun _ => (#[] : Array Value))).push (seqObj "tuple" vs.toArray 0)).push (seqObj "list" #[] 0)).get? a = some (seqObj "list" #[] e1) := Heap.get?_push_of_some _ (Heap.get?_push_of_some _ ho1)
  rw [list_sort_plain]
  refine wpAny_bind (listItems_at ho rfl ?_)
  refine wpAny_bind (listUpdate_at ho rfl ?_ (by rw [List.size_toArray, sizeLine_eq]; omega) (Nat.zero_le _))
  refine wpAny_bind (seqEpoch_at ho1 rfl ?_)
  refine wpAny_bind (wpAny_newTuple ?_ (by show vs.length ≤ _; rw [sizeLine_eq]; omega))
  refine wpAny_bind (wpAny_newList ?_ (Nat.zero_le _))
  refine wpAny_holding ?_
  show wpAny (model prog w) A _ P E { s with heap := ((s.heap.update a (Obj.mapSeq fun _ => (#[] : Array Value))).push (seqObj "tuple" vs.toArray 0)).push (seqObj "list" #[] 0) }
  dsimp only
  have hn2 : vs.toArray.size < 2 := by rw [List.size_toArray]; omega
  rw [if_pos hn2, if_pos hn2]
  refine wpAny_bind (wpAny_pure ?_)
  refine wpAny_bind (wpAny_pure ?_)
  dsimp only
  have hz : (arrOf (SortSt.mk' general' (vs.toArray.zip vs.toArray) #[] 7 none)).map (·.2) = vs.toArray := by
    apply Array.toList_inj.mp
    show ((vs.toArray.zip vs.toArray).map (·.2)).toList = _
    simp only [Array.toList_map, Array.toList_zip]
    exact List.map_snd_zip (Nat.le_refl _)
  rw [hz]
  refine wpAny_bind (seqEpoch_at ho3 rfl ?_)
  obtain ⟨c2, hc2⟩ : ∃ c2, ((((s.heap.update a (Obj.mapSeq fun _ => (#[] : Array Value))).push (seqObj "tuple" vs.toArray 0)).push (seqObj "list" #[] 0)).update a (Obj.mapSeq fun _ => vs.toArray)).get? a = some (seqObj "list" vs.toArray c2) := ⟨_, get?_update_seq ho3 fun _ => vs.toArray⟩
  have s2 := Heap.SameBut.update (((s.heap.update a (Obj.mapSeq fun _ => (#[] : Array Value))).push (seqObj "tuple" vs.toArray 0)).push (seqObj "list" #[] 0)) a (Obj.mapSeq fun _ => vs.toArray)
  refine wpAny_bind (listUpdate_at ho3 rfl ?_ (Nat.zero_le _) (by rw [List.size_toArray, sizeLine_eq]; omega))
  simp only [bne_self_eq_false, Bool.false_eq_true, if_false]
  refine wpAny_pure (h c2 _ (kas_fr F3 s2 haL ha0) fun p hp => ?_)
  rcases List.mem_cons.mp hp with rfl | hp
  · exact ⟨hc2, haL, ha0⟩
  · exact kas_news N2 s2 hna p hp
theorem sorted_short {l : Addr} {Q : Value → Shared → Prop} (F : Fr h₀ L s.heap m) (N : News h₀ L s.heap news) (hl : s.heap.IsList l vs.toArray) (h2 : vs.length < 2)
    (h : ∀ D c h', Fr h₀ L h' m → News h₀ L h' ((D, seqObj "list" vs.toArray c) :: news) → (∀ q ∈ news, q.1 < D) → Q (.ref D) { s with heap := h' }) :
    wpAny (model prog w) A (call (.builtin "sorted") [.ref l]) Q E s := by
  refine Calls.call_function_entry kind_sorted plain_sorted entry_sorted (args_sorted1 _) ?_
  unfold Builtin.«sorted»
  refine wpAny_bind (m := checkCount "sorted" 1 1 _) (wpAny_pure ?_)
  refine wpAny_bind (collect_list hl ?_ (by rw [sizeLine_eq]; omega))
  refine wpAny_bind (wpAny_newList ?_ (by rw [sizeLine_eq]; omega))
  have hsz : ((s.heap.push (seqObj "list" #[] 0)).update s.heap.objs.size (Obj.mapSeq (· ++ vs.toArray))).objs.size = s.heap.objs.size + 1 := by
    rw [Heap.size_update, size_push']
  have hoL : (((s.heap.push (seqObj "list" #[] 0)).update s.heap.objs.size (Obj.mapSeq (· ++ vs.toArray))).push (seqObj "list" vs.toArray 0)).get? (s.heap.objs.size + 1) = some (seqObj "list" vs.toArray 0) := by
    rw [← hsz]; exact Heap.get?_push_size _ rfl
  have keep : ∀ b o, s.heap.get? b = some o → (((s.heap.push (seqObj "list" #[] 0)).update s.heap.objs.size (Obj.mapSeq (· ++ vs.toArray))).push (seqObj "list" vs.toArray 0)).get? b = some o := fun b o q => by
    have hlt : b < s.heap.objs.size := Heap.lt_size q
    rw [Heap.get?_push_ne _ _ _ (by rw [hsz]; exact Nat.ne_of_lt (Nat.lt_succ_of_lt hlt)), Heap.get?_update_ne _ _ _ _ (Nat.ne_of_lt hlt), Heap.get?_push_ne _ _ _ (Nat.ne_of_lt hlt)]
    exact q
  have hL : L < s.heap.objs.size := F.ns.lt
  show wpAny _ _ _ _ _ { s with heap := ((s.heap.push (seqObj "list" #[] 0)).update s.heap.objs.size (Obj.mapSeq (· ++ vs.toArray))).push (seqObj "list" vs.toArray 0) }
  rw [hsz]
  refine wpAny_bind (wpAny_holding (wpAny_call_entry slot_list_sort ⟨_, hoL, rfl⟩ entry_list_sort ?body (args_list_sort _)))
  case body =>
    refine sort_short (s := { s with heap := ((s.heap.push (seqObj "list" #[] 0)).update s.heap.objs.size (Obj.mapSeq (· ++ vs.toArray))).push (seqObj "list" vs.toArray 0) })
      (F.kept keep) (N.grown keep) hoL (Nat.ne_of_gt (Nat.lt_succ_of_lt hL)) (Heap.get?_none_of_le (Nat.le_trans F.above (Nat.le_succ_of_le (Nat.le_of_lt hL))))
      (fun p hp => Nat.ne_of_lt (Nat.lt_succ_of_lt (Heap.lt_size (N p hp).1))) h2 fun c h' F' N' => ?_
    exact ⟨_, rfl, wpAny_pure ⟨_, rfl, h _ c h' F' N' fun q hq => Nat.lt_succ_of_lt (Heap.lt_size (N q hq).1)⟩⟩
abbrev tup2 (p : Int × Int) (t u : Tok) (n : Nat) : Obj := { cls := .type "tuple", data := .seq [Value.int p.1 t, Value.int p.2 u].toArray n }
theorem key_lt {x y : Addr} {p q : Int × Int} {t u t' u' : Tok} {n n' : Nat} {C : Bool → Shared → Prop} (hx : s.heap.get? x = some (tup2 p t u n)) (hy : s.heap.get? y = some (tup2 q t' u' n')) (hne : p.1 ≠ q.1) (h : C (decide (p.1 < q.1)) s) :
    wpAny (model prog w) A (keyLt' (tuples' true) (.ref x) (.ref y)) C E s := by
  refine kat_lt hx rfl hy rfl ?_
  show KatLex prog w A true _ C [(Value.int p.1 t, Value.int q.1 t'), (Value.int p.2 u, Value.int q.2 u')] 0 s
  refine kat_cons (wpAny_eqBool_int ?_)
  have e : (p.1 == q.1) = false := beq_eq_false_iff_ne.mpr hne
  rw [e]
  exact kat_no (oneLt_int h)
theorem ty_int {h : Heap} {i : Int} {t : Tok} : Looks (model prog w) h (typeOf (.int i t)) (.type "int") := fun _ _ _ _ _ q => wpAny_pure q
section
variable {x y z l : Addr} {p q r : Int × Int} {t u t' u' t'' u'' : Tok} {n n' n'' : Nat} {Q : Value → Shared → Prop}
theorem ask_of {i j : Nat} {κ : SortKind} {C : Bool → Shared → Prop} {v v' : Value} (hi : vs.getD i Value.none = v) (hj : vs.getD j Value.none = v') (h : wpAny (model prog w) A (keyLt' κ v v') C (fun _ _ => False) s) : kas_ask prog w A κ vs i j C s := by
  unfold kas_ask
  rw [hi, hj]
  exact h
end
def kasVal {α : Type} (lt : Nat → Nat → Bool) : KasT α → α
  | .ret a => a
  | .ask i j k => kasVal lt (k (lt i j))
def kasOk {α : Type} (lt ok : Nat → Nat → Bool) : KasT α → Bool
  | .ret _ => true
  | .ask i j k => ok i j && kasOk lt ok (k (lt i j))
theorem kas_pure {α : Type} {cmp : Nat → Nat → (Bool → Shared → Prop) → Shared → Prop} {lt ok : Nat → Nat → Bool} {G : α → Shared → Prop} (h : ∀ i j C, ok i j = true → C (lt i j) s → cmp i j C s) :
    ∀ t : KasT α, kasOk lt ok t = true → G (kasVal lt t) s → t.kasWp cmp G s
  | .ret _, _, hq => hq
  | .ask i j k, ho, hq => by
    have ho' : (ok i j && kasOk lt ok (k (lt i j))) = true := ho
    rw [Bool.and_eq_true] at ho'
    exact h i j _ ho'.1 (kas_pure h (k (lt i j)) ho'.2 hq)
def lt3 (a b c : Bool) : Nat → Nat → Bool
  | 0, 1 => a
  | 1, 0 => !a
  | 1, 2 => b
  | 2, 1 => !b
  | 0, 2 => c
  | 2, 0 => !c
  | _, _ => false
def ok2 : Nat → Nat → Bool
  | 0, 1 => true
  | 1, 0 => true
  | _, _ => false
def ok3 : Nat → Nat → Bool
  | 0, 1 => true
  | 1, 0 => true
  | 1, 2 => true
  | 2, 1 => true
  | 0, 2 => true
  | 2, 0 => true
  | _, _ => false
theorem v2t : kasVal (lt3 true false false) (kas_sort 2) = #[0, 1] ∧ kasOk (lt3 true false false) ok2 (kas_sort 2) = true := by decide +kernel
theorem v2f : kasVal (lt3 false false false) (kas_sort 2) = #[1, 0] ∧ kasOk (lt3 false false false) ok2 (kas_sort 2) = true := by decide +kernel
theorem v3a : kasVal (lt3 true true true) (kas_sort 3) = #[0, 1, 2] ∧ kasOk (lt3 true true true) ok3 (kas_sort 3) = true := by decide +kernel
theorem v3b : kasVal (lt3 true false true) (kas_sort 3) = #[0, 2, 1] ∧ kasOk (lt3 true false true) ok3 (kas_sort 3) = true := by decide +kernel
theorem v3c : kasVal (lt3 true false false) (kas_sort 3) = #[2, 0, 1] ∧ kasOk (lt3 true false false) ok3 (kas_sort 3) = true := by decide +kernel
theorem v3d : kasVal (lt3 false true true) (kas_sort 3) = #[1, 0, 2] ∧ kasOk (lt3 false true true) ok3 (kas_sort 3) = true := by decide +kernel
theorem v3e : kasVal (lt3 false true false) (kas_sort 3) = #[1, 2, 0] ∧ kasOk (lt3 false true false) ok3 (kas_sort 3) = true := by decide +kernel
theorem v3f : kasVal (lt3 false false false) (kas_sort 3) = #[2, 1, 0] ∧ kasOk (lt3 false false false) ok3 (kas_sort 3) = true := by decide +kernel
section
variable {x y z l : Addr} {p q r : Int × Int} {t u t' u' t'' u'' : Tok} {n n' n'' : Nat} {Q : Value → Shared → Prop}
theorem notlt {a b : Int} (h : a ≠ b) : decide (b < a) = !decide (a < b) := by
  by_cases h1 : a < b
  · rw [decide_eq_true h1, decide_eq_false (by omega)]; rfl
  · rw [decide_eq_false h1, decide_eq_true (by omega)]; rfl
theorem sorted_two (F : Fr h₀ L s.heap m) (N : News h₀ L s.heap news) (hl : s.heap.IsList l [Value.ref x, Value.ref y].toArray) (hx : (x, tup2 p t u n) ∈ news) (hy : (y, tup2 q t' u' n') ∈ news) (hne : p.1 ≠ q.1)
    (h : ∀ D c h' out, out = (if p.1 < q.1 then [Value.ref x, Value.ref y] else [Value.ref y, Value.ref x]) → Fr h₀ L h' m → News h₀ L h' ((D, listOf (List.toArray out) c) :: news) → (∀ q ∈ news, q.1 < D) → Q (.ref D) { s with heap := h' }) :
    wpAny (model prog w) A (call (.builtin "sorted") [.ref l]) Q E s := by
  refine kat_sorted F N hl (Nat.le_of_ble_eq_true rfl) (Nat.le_of_ble_eq_true rfl) fun D e1 h' F' N' lt => ?_
  have gx := (N' (x, tup2 p t u n) (.tail _ hx)).1
  have gy := (N' (y, tup2 q t' u' n') (.tail _ hy)).1
  refine kat_kind (fs := [Value.int p.1 t, Value.int q.1 t']) (T := .type "int") (KatTups.cons gx rfl rfl rfl (KatTups.cons gy rfl rfl rfl KatTups.nil)) (Nat.le_of_ble_eq_true rfl) (fun v hv => ?_) rfl ?_
  · simp only [List.mem_cons, List.not_mem_nil, or_false] at hv
    rcases hv with rfl | rfl <;> exact ty_int
  have fin : ∀ out, out = (if p.1 < q.1 then [Value.ref x, Value.ref y] else [Value.ref y, Value.ref x]) → KasFin h₀ L m D e1 out (fun s3 => Q (.ref D) s3) { s with heap := h' } := fun out e =>
    KasFin.intro F' N' (g := fun o => (D, o) :: news) (UpdF.head fun p hp => Nat.ne_of_lt (lt p hp)) fun h2 c F2 N2 => h D c h2 out e F2 N2 lt
  have ask : ∀ i j C, ok2 i j = true → C (lt3 (decide (p.1 < q.1)) false false i j) { s with heap := h' } → kas_ask prog w A.in1.in1 (tuples' true) [Value.ref x, Value.ref y] i j C { s with heap := h' } := by
    intro i j C ho hq
    unfold ok2 at ho
    split at ho
    · exact ask_of rfl rfl (key_lt gx gy hne hq)
    · exact ask_of rfl rfl (key_lt gy gx (Ne.symm hne) (by rw [notlt hne]; exact hq))
    · cases ho
  show (kas_sort 2).kasWp _ _ _
  by_cases h1 : p.1 < q.1
  · rw [decide_eq_true h1] at ask
    refine kas_pure ask _ v2t.2 ?_
    rw [v2t.1]
    exact fin _ (by rw [if_pos h1]; rfl)
  · rw [decide_eq_false h1] at ask
    refine kas_pure ask _ v2f.2 ?_
    rw [v2f.1]
    exact fin _ (by rw [if_neg h1]; rfl)
def ord3 {α : Type} (p q r : Int) (x y z : α) : List α :=
  if p < q then (if q < r then [x, y, z] else if p < r then [x, z, y] else [z, x, y]) else (if p < r then [y, x, z] else if q < r then [y, z, x] else [z, y, x])
theorem sorted_three (F : Fr h₀ L s.heap m) (N : News h₀ L s.heap news) (hl : s.heap.IsList l [Value.ref x, Value.ref y, Value.ref z].toArray) (hx : (x, tup2 p t u n) ∈ news) (hy : (y, tup2 q t' u' n') ∈ news) (hz : (z, tup2 r t'' u'' n'') ∈ news) (hne : p.1 ≠ q.1) (hne' : p.1 ≠ r.1) (hne'' : q.1 ≠ r.1)
    (h : ∀ D c h' out, out = ord3 p.1 q.1 r.1 (Value.ref x) (Value.ref y) (Value.ref z) → Fr h₀ L h' m → News h₀ L h' ((D, listOf (List.toArray out) c) :: news) → (∀ q ∈ news, q.1 < D) → Q (.ref D) { s with heap := h' }) :
    wpAny (model prog w) A (call (.builtin "sorted") [.ref l]) Q E s := by
  refine kat_sorted F N hl (Nat.le_of_ble_eq_true rfl) (Nat.le_of_ble_eq_true rfl) fun D e1 h' F' N' lt => ?_
  have gx := (N' (x, tup2 p t u n) (.tail _ hx)).1
  have gy := (N' (y, tup2 q t' u' n') (.tail _ hy)).1
  have gz := (N' (z, tup2 r t'' u'' n'') (.tail _ hz)).1
  refine kat_kind (fs := [Value.int p.1 t, Value.int q.1 t', Value.int r.1 t'']) (T := .type "int") (KatTups.cons gx rfl rfl rfl (KatTups.cons gy rfl rfl rfl (KatTups.cons gz rfl rfl rfl KatTups.nil))) (Nat.le_of_ble_eq_true rfl) (fun v hv => ?_) rfl ?_
  · simp only [List.mem_cons, List.not_mem_nil, or_false] at hv
    rcases hv with rfl | rfl | rfl <;> exact ty_int
  have fin : ∀ out, out = ord3 p.1 q.1 r.1 (Value.ref x) (Value.ref y) (Value.ref z) → KasFin h₀ L m D e1 out (fun s3 => Q (.ref D) s3) { s with heap := h' } := fun out e =>
    KasFin.intro F' N' (g := fun o => (D, o) :: news) (UpdF.head fun p hp => Nat.ne_of_lt (lt p hp)) fun h2 c F2 N2 => h D c h2 out e F2 N2 lt
  have ask : ∀ i j C, ok3 i j = true → C (lt3 (decide (p.1 < q.1)) (decide (q.1 < r.1)) (decide (p.1 < r.1)) i j) { s with heap := h' } → kas_ask prog w A.in1.in1 (tuples' true) [Value.ref x, Value.ref y, Value.ref z] i j C { s with heap := h' } := by
    intro i j C ho hq
    unfold ok3 at ho
    split at ho
    · exact ask_of rfl rfl (key_lt gx gy hne hq)
    · exact ask_of rfl rfl (key_lt gy gx (Ne.symm hne) (by rw [notlt hne]; exact hq))
    · exact ask_of rfl rfl (key_lt gy gz hne'' hq)
    · exact ask_of rfl rfl (key_lt gz gy (Ne.symm hne'') (by rw [notlt hne'']; exact hq))
    · exact ask_of rfl rfl (key_lt gx gz hne' hq)
    · exact ask_of rfl rfl (key_lt gz gx (Ne.symm hne') (by rw [notlt hne']; exact hq))
    · cases ho
  show (kas_sort 3).kasWp _ _ _
  unfold ord3 at fin
  by_cases h1 : p.1 < q.1 <;> by_cases h2 : q.1 < r.1 <;> by_cases h3 : p.1 < r.1 <;>
    first | (exfalso; omega) | skip <;>
    simp only [h1, h2, h3, decide_true, decide_false, if_true, if_false] at ask fin
  · refine kas_pure ask _ v3a.2 ?_
    rw [v3a.1]; exact fin _ rfl
  · refine kas_pure ask _ v3b.2 ?_
    rw [v3b.1]; exact fin _ rfl
  · refine kas_pure ask _ v3c.2 ?_
    rw [v3c.1]; exact fin _ rfl
  · refine kas_pure ask _ v3d.2 ?_
    rw [v3d.1]; exact fin _ rfl
  · refine kas_pure ask _ v3e.2 ?_
    rw [v3e.1]; exact fin _ rfl
  · refine kas_pure ask _ v3f.2 ?_
    rw [v3f.1]; exact fin _ rfl
abbrev tupD (p : Int × Int) : Dat := Dat.tuple [Dat.int p.1, Dat.int p.2]
theorem tup2_in {src : List (Addr × Obj)} {v : Value} (h : DatIn src v (tupD p)) : ∃ a t u n, v = .ref a ∧ (a, tup2 p t u n) ∈ src := by
  cases h with
  | tuple hm ha =>
    cases ha with
    | cons h1 ha =>
      cases ha with
      | cons h2 ha =>
        cases ha
        cases h1
        cases h2
        exact ⟨_, _, _, _, rfl, hm⟩
theorem sorted_due {src : List (Addr × Obj)} {k : Nat} {dl : List (Int × Int)} (F : Fr h₀ L s.heap m) (N : News h₀ L s.heap news) (hm : (l, listOf vs.toArray k) ∈ news) (hd : DatAll src vs (dl.map tupD)) (sub : ∀ p ∈ src, p ∈ news) (h3 : dl.length ≤ 3) (hne : dl.Pairwise (fun p q => p.1 ≠ q.1))
    (h : ∀ D c h' out, Fr h₀ L h' m → News h₀ L h' ((D, listOf (List.toArray out) c) :: news) → (∀ q ∈ news, q.1 < D) → DatAll src out ((mall dl).map tupD) → Q (.ref D) { s with heap := h' }) :
    wpAny (model prog w) A (call (.builtin "sorted") [.ref l]) Q E s := by
  have hl : s.heap.IsList l vs.toArray := N.isList hm
  match dl, hd, h3, hne, h with
  | [], hd, _, _, h =>
    cases hd
    exact sorted_short F N hl (by decide) fun D c h' F' N' lt => h D c h' [] F' N' lt .nil
  | [p], hd, _, _, h =>
    cases hd with
    | cons a b =>
      cases b
      exact sorted_short F N hl (Nat.le_of_ble_eq_true rfl) fun D c h' F' N' lt => h D c h' _ F' N' lt (.cons a .nil)
  | [p, q], hd, _, hne, h =>
    cases hd with
    | cons a b =>
      cases b with
      | cons b c =>
        cases c
        obtain ⟨x, t, u, n, rfl, hx⟩ := tup2_in a
        obtain ⟨y, t', u', n', rfl, hy⟩ := tup2_in b
        have e : p.1 ≠ q.1 := (List.pairwise_cons.mp hne).1 q List.mem_cons_self
        refine sorted_two F N hl (sub _ hx) (sub _ hy) e fun D c h' out eo F' N' lt => h D c h' out F' N' lt ?_
        have e2 := mall2 p.1 p.2 q.1 q.2 e
        show DatAll src out ((mall [(p.1, p.2), (q.1, q.2)]).map tupD)
        rw [e2, eo]
        by_cases h1 : p.1 < q.1
        · rw [if_pos h1, if_pos h1]
          exact .cons a (.cons b .nil)
        · rw [if_neg h1, if_neg h1]
          exact .cons b (.cons a .nil)
  | [p, q, r], hd, _, hne, h =>
    cases hd with
    | cons a b =>
      cases b with
      | cons b c =>
        cases c with
        | cons c d =>
          cases d
          obtain ⟨x, t, u, n, rfl, hx⟩ := tup2_in a
          obtain ⟨y, t', u', n', rfl, hy⟩ := tup2_in b
          obtain ⟨z, t'', u'', n'', rfl, hz⟩ := tup2_in c
          have e : p.1 ≠ q.1 := (List.pairwise_cons.mp hne).1 q List.mem_cons_self
          have e' : p.1 ≠ r.1 := (List.pairwise_cons.mp hne).1 r (List.mem_cons_of_mem _ List.mem_cons_self)
          have e'' : q.1 ≠ r.1 := (List.pairwise_cons.mp (List.pairwise_cons.mp hne).2).1 r List.mem_cons_self
          refine sorted_three F N hl (sub _ hx) (sub _ hy) (sub _ hz) e e' e'' fun D k9 h' out eo F' N' lt => h D k9 h' out F' N' lt ?_
          have e2 := mall3 p.1 p.2 q.1 q.2 r.1 r.2 e e' e''
          show DatAll src out ((mall [(p.1, p.2), (q.1, q.2), (r.1, r.2)]).map tupD)
          rw [e2, eo]
          unfold ord3
          by_cases h1 : p.1 < q.1 <;> by_cases h2 : q.1 < r.1 <;> by_cases h3 : p.1 < r.1 <;> simp only [h1, h2, h3, if_true, if_false, List.map_cons, List.map_nil] <;>
            first | exact .cons a (.cons b (.cons c .nil)) | exact .cons a (.cons c (.cons b .nil)) | exact .cons c (.cons a (.cons b .nil)) | exact .cons b (.cons a (.cons c .nil)) | exact .cons b (.cons c (.cons a .nil)) | exact .cons c (.cons b (.cons a .nil))
  | _ :: _ :: _ :: _ :: _, _, h3, _, _ => exact absurd h3 (by simp)
end
end
end Mine
end
section
namespace Mine
abbrev rowD (l : List Int) : Dat := Dat.list (l.map Dat.int)
theorem DatAll.rep {src : List (Addr × Obj)} {v : Value} {d : Dat} (h : DatIn src v d) : ∀ n : Nat, DatAll src (List.replicate n v) (List.replicate n d)
  | 0 => .nil
  | n + 1 => .cons h (DatAll.rep h n)
section
variable {prog : Program} {w : World} {A : Around} {E : Value → Shared → Prop} {s : Shared} {h₀ : Heap} {L l a b : Addr} {m : Str → Option Value} {news src src2 : List (Addr × Obj)} {vs ws us : List Value} {ds es : List Dat} {ns : List Int} {n nn : Nat} {x : Int} {u : Tok} {Q : Value → Shared → Prop}
theorem mul_row (F : Fr h₀ L s.heap m) (N : News h₀ L s.heap news) (hl : (l, listOf [Value.ref a].toArray n) ∈ news) (ha : (a, listOf us.toArray nn) ∈ news) (hI : IntsAre us ns) (h0 : 0 ≤ x) (h1 : x ≤ 256)
    (h : ∀ D h' zs, Fr h₀ L h' m → News h₀ L h' ((D, listOf (List.toArray zs) 0) :: news) → (∀ p ∈ news, p.1 < D) → DatAll [(a, listOf us.toArray nn)] zs (List.replicate x.toNat (rowD ns)) → Q (.ref D) { s with heap := h' }) :
    wpAny (model prog w) A (binaryOp .Mult (.ref l) (.int x u)) Q E s := by
  refine KMa.mul (ws := List.replicate x.toNat (Value.ref a)) F N (N.isList hl) (by omega) (by omega) (by simp; omega) ?_ (fun D h' F' N' lt => h D h' _ F' N' lt (DatAll.rep (DatIn.list List.mem_cons_self (ints_dat hI)) _))
  generalize x.toNat = k
  induction k with
  | zero => rfl
  | succ k ih => rw [List.replicate_succ, List.flatten_cons, ih, List.replicate_succ]; rfl
theorem add_dat (F : Fr h₀ L s.heap m) (N : News h₀ L s.heap news) (ha : (a, listOf vs.toArray n) ∈ news) (hb : (b, listOf ws.toArray nn) ∈ news) (da : DatAll src vs ds) (db : DatAll src2 ws es) (hz : ds.length + es.length ≤ 256)
    (h : ∀ D h' zs, Fr h₀ L h' m → News h₀ L h' ((D, listOf (List.toArray zs) 0) :: news) → (∀ p ∈ news, p.1 < D) → DatAll (src ++ src2) zs (ds ++ es) → Q (.ref D) { s with heap := h' }) :
    wpAny (model prog w) A (binaryOp .Add (.ref a) (.ref b)) Q E s := by
  refine kmk_add_lit (zs := vs ++ ws) F N (N.isList ha) (N.isList hb) rfl (fun D h' F' N' lt => h D h' _ F' N' lt (DatAll.append (DatAll.mono (fun p hp => List.mem_append.mpr (.inl hp)) da) (DatAll.mono (fun p hp => List.mem_append.mpr (.inr hp)) db))) ?_
  show vs.length + ws.length ≤ sizeLine
  rw [da.length, db.length, sizeLine_eq]
  omega
end
end Mine
end
section
namespace Mine
abbrev tupO (vs : List Value) (n : Nat) : Obj := { cls := .type "tuple", data := .seq vs.toArray n }
def IsTup (d : Dat) : Prop := ∃ i r, d = Dat.tuple [Dat.int i, rowD r] ∧ r.length = 16
theorem tup_in {news : List (Addr × Obj)} {v : Value} {d : Dat} (h : DatIn news v d) (ht : IsTup d) :
    ∃ a i t b vs n n' r, v = .ref a ∧ (a, tupO [.int i t, .ref b] n) ∈ news ∧ (b, listOf (List.toArray vs) n') ∈ news ∧ IntsAre vs r ∧ r.length = 16 := by
  obtain ⟨i, r, rfl, hl⟩ := ht
  cases h with
  | tuple hm ha =>
    cases ha with
    | cons h1 ha =>
      cases ha with
      | cons h2 ha =>
        cases ha
        cases h1
        cases h2 with
        | list hb hv => exact ⟨_, _, _, _, _, _, _, r, rfl, hm, hb, dat_ints hv, hl⟩
theorem rowD_inj {r r' : List Int} (h : rowD r = rowD r') : r = r' := by
  have h1 : r.map Dat.int = r'.map Dat.int := Dat.list.inj h
  exact (List.map_inj_right (fun _ _ e => Dat.int.inj e)).mp h1
section
variable {prog : Program} {w : World} {A : Around} {E : Value → Shared → Prop} {s : Shared} {h₀ : Heap} {L l a b D : Addr} {m : Str → Option Value} {news news' L9 src : List (Addr × Obj)} {us vs ws : List Value} {ds : List Dat} {ns : List Int} {n nn : Nat} {k i : Int} {t u : Tok} {value slice : PySem.Expr}
theorem stg_item {Q : Value → Shared → Prop} (N : News h₀ L s.heap news) (hm : (l, listOf us.toArray n) ∈ news) (hd : DatAll L9 us ds) (ht : ∀ d ∈ ds, IsTup d) (h0 : 0 ≤ k) (h1 : k < (ds.length : Int)) (hfit : k < 2 ^ 63)
    (h : ∀ a i t b vs n n' r, (a, tupO [.int i t, .ref b] n) ∈ L9 → (b, listOf (List.toArray vs) n') ∈ L9 → IntsAre vs r → r.length = 16 → Q (.ref a) s)
    (hs : subscripted slice false (.ref l) (.int k u) = operate [.ref l, .int k u] (getItem (.ref l) (.int k u))) :
    wpAny (model prog w) A (subscriptTail value slice (.ref l) (.int k u)) Q E s :=
  kd_item N hm hd h0 h1 hfit (fun v d _ hmem hin => by
    obtain ⟨a, i, t, b, vs, n, n', r, rfl, q1, q2, q3, q4⟩ := tup_in hin (ht d hmem)
    exact h a i t b vs n n' r q1 q2 q3 q4) hs
theorem row_item {Q : Value → Shared → Prop} (N : News h₀ L s.heap news) (hm : (l, listOf us.toArray n) ∈ news) (hd : DatAll L9 us ds) (ht : ∀ d ∈ ds, IsRow d) (h0 : 0 ≤ k) (h1 : k < (ds.length : Int)) (hfit : k < 2 ^ 63)
    (h : ∀ a vs n' r, (a, listOf (List.toArray vs) n') ∈ L9 → IntsAre vs r → r.length = 16 → ds[k.toNat]? = some (rowD r) → Q (.ref a) s)
    (hs : subscripted slice false (.ref l) (.int k u) = operate [.ref l, .int k u] (getItem (.ref l) (.int k u))) :
    wpAny (model prog w) A (subscriptTail value slice (.ref l) (.int k u)) Q E s :=
  kd_item N hm hd h0 h1 hfit (fun v d hk hmem hin => by
    obtain ⟨a, us, n, ns, rfl, q1, q2, rfl, q4⟩ := row_in hin (ht d hmem)
    exact h a us n ns q1 q2 q4 hk) hs
theorem set_rowA {Q : Unit → Shared → Prop} (F : Fr h₀ L s.heap m) (N : News h₀ L s.heap news) (U : Upd D (listOf vs.toArray n) (listOf (vs.set k.toNat (.ref a)).toArray n) news news') (hm : (a, listOf us.toArray nn) ∈ news) (hI : IntsAre us ns) (hd : DatAll src vs ds) (h0 : 0 ≤ k) (h1 : k < ds.length) (hfit : k < 2 ^ 63)
    (h : ∀ h', Fr h₀ L h' m → News h₀ L h' news' → DatAll ((a, listOf us.toArray nn) :: src) (vs.set k.toNat (.ref a)) (ds.set k.toNat (rowD ns)) → Q () { s with heap := h' }) :
    wpAny (model prog w) A (setItem (.ref D) (.int k t) (.ref a)) Q E s := by
  refine set_any F N U h0 (by rw [hd.length]; exact h1) hfit fun h' F' N' => h h' F' N' ?_
  exact DatAll.setD (DatIn.list List.mem_cons_self (ints_dat hI)) (DatAll.mono (fun p hp => List.mem_cons_of_mem _ hp) hd) _
theorem set_tup {Q : Unit → Shared → Prop} (F : Fr h₀ L s.heap m) (N : News h₀ L s.heap news) (U : Upd D (listOf vs.toArray n) (listOf (vs.set k.toNat (.ref a)).toArray n) news news') {n2 : Nat} {t2 : Tok} (hm : (a, tupO [.int i t2, .ref b] n2) ∈ news) (hb : (b, listOf us.toArray nn) ∈ news) (hI : IntsAre us ns) (hl : ns.length = 16) (hd : DatAll src vs ds) (ht : ∀ d ∈ ds, IsTup d) (h0 : 0 ≤ k) (h1 : k < ds.length) (hfit : k < 2 ^ 63)
    (h : ∀ h' es, Fr h₀ L h' m → News h₀ L h' news' → DatAll ((a, tupO [.int i t2, .ref b] n2) :: (b, listOf us.toArray nn) :: src) (vs.set k.toNat (.ref a)) es → (∀ d ∈ es, IsTup d) → es.length = ds.length → Q () { s with heap := h' }) :
    wpAny (model prog w) A (setItem (.ref D) (.int k t) (.ref a)) Q E s := by
  refine set_any F N U h0 (by rw [hd.length]; exact h1) hfit fun h' F' N' => h h' (ds.set k.toNat (Dat.tuple [Dat.int i, rowD ns])) F' N' ?_ ?_ (List.length_set ..)
  · refine DatAll.setD (DatIn.tuple List.mem_cons_self (.cons (.int _ _) (.cons (DatIn.list (List.mem_cons_of_mem _ List.mem_cons_self) (ints_dat hI)) .nil))) (DatAll.mono (fun p hp => List.mem_cons_of_mem _ (List.mem_cons_of_mem _ hp)) hd) _
  · intro d hdm
    rcases List.mem_or_eq_of_mem_set hdm with hdm | rfl
    · exact ht d hdm
    · exact ⟨i, ns, rfl, hl⟩
end
end Mine
namespace Mine
abbrev cI (ns : List Int) (i : Int) : Int := cellAt ns (2 + i) 0
def tabD (ns : List Int) (pre : List Int) : List Dat := pre.map fun i => rowD (Bi (cI ns i) i)
def dueP (ns : List Int) (pre : List Int) : List (Int × Int) := (pre.filter fun i => decide (¬ (cI ns i).fmod 3 = 0)).map fun i => kv (cI ns i) i
def dueD (ns : List Int) (pre : List Int) : List Dat := (dueP ns pre).map tupD
section
variable {ns pre : List Int} {k : Int}
theorem tab_start : [] = tabD ns [] ∧ [] = dueD ns [] ∧ ([] : List Dat).length = ([] : List Int).length ∧ ([] : List Dat).length ≤ ([] : List Int).length := ⟨rfl, rfl, rfl, Nat.le_refl _⟩
theorem tab_step0 (h : (cI ns k).fmod 3 = 0) : tabD ns pre ++ [rowD (List.replicate 16 0)] = tabD ns (pre ++ [k]) := by
  unfold tabD
  rw [List.map_append, List.map_singleton, Bi0 h]
theorem tab_step1 (h : ¬ (cI ns k).fmod 3 = 0) : tabD ns pre ++ [rowD (bd (cI ns k) k ++ [(bd (cI ns k) k).sum.fmod 256])] = tabD ns (pre ++ [k]) := by
  unfold tabD
  rw [List.map_append, List.map_singleton, Bi1 h]
theorem due_step0 (h : (cI ns k).fmod 3 = 0) : dueD ns pre = dueD ns (pre ++ [k]) := by
  unfold dueD dueP
  rw [List.filter_append, List.filter_cons_of_neg (by simp [h])]
  simp
theorem due_step1 (h : ¬ (cI ns k).fmod 3 = 0) : dueD ns pre ++ [tupD (kv (cI ns k) k)] = dueD ns (pre ++ [k]) := by
  unfold dueD dueP
  rw [List.filter_append, List.filter_cons_of_pos (by simp [h])]
  simp
theorem tab_len : (tabD ns pre).length = pre.length := by unfold tabD; rw [List.length_map]
theorem tab_rows : ∀ d ∈ tabD ns pre, IsRow d := by
  intro d hd
  obtain ⟨i, _, rfl⟩ := List.mem_map.mp hd
  exact ⟨_, rfl, Bi_len _ _⟩
theorem due_len : (dueD ns pre).length ≤ pre.length := by
  unfold dueD dueP
  rw [List.length_map, List.length_map]
  exact List.length_filter_le _ _
end
end Mine
namespace Mine
section
variable {src : List (Addr × Obj)} {xs : List Value} {ds : List Dat} {ns pre : List Int} {n : Nat}
theorem size_len (hd : DatAll src xs ds) (hl : ds.length ≤ 256) : xs.toArray.size ≤ sizeLine := by
  rw [sizeLine_eq, List.size_toArray, hd.length]
  omega
theorem rep_rows {r : List Int} (hr : r.length = 16) : ∀ d ∈ List.replicate n (rowD r) ++ tabD ns pre, IsRow d := by
  intro d hd
  rcases List.mem_append.mp hd with hd | hd
  · rw [(List.mem_replicate.mp hd).2]
    exact ⟨r, rfl, hr⟩
  · exact tab_rows d hd
end
end Mine
namespace Mine
section
variable {ns pre : List Int} {k : Int}
theorem tab_st0 (h : (cI ns k).fmod 3 = 0) : tabD ns pre ++ [rowD (List.replicate 16 0)] = tabD ns (pre ++ [k]) ∧ dueD ns pre = dueD ns (pre ++ [k]) ∧ (tabD ns pre ++ [rowD (List.replicate 16 0)]).length = (pre ++ [k]).length ∧ (dueD ns pre).length ≤ (pre ++ [k]).length :=
  ⟨tab_step0 h, due_step0 h, by rw [tab_step0 h]; exact tab_len, by rw [due_step0 h]; exact due_len⟩
theorem tab_st1 (h : ¬ (cI ns k).fmod 3 = 0) : tabD ns pre ++ [rowD (bd (cI ns k) k ++ [(bd (cI ns k) k).sum.fmod 256])] = tabD ns (pre ++ [k]) ∧ dueD ns pre ++ [tupD (kv (cI ns k) k)] = dueD ns (pre ++ [k]) ∧ (tabD ns pre ++ [rowD (bd (cI ns k) k ++ [(bd (cI ns k) k).sum.fmod 256])]).length = (pre ++ [k]).length ∧ (dueD ns pre ++ [tupD (kv (cI ns k) k)]).length ≤ (pre ++ [k]).length :=
  ⟨tab_step1 h, due_step1 h, by rw [tab_step1 h]; exact tab_len, by rw [due_step1 h]; exact due_len⟩
end
end Mine
namespace Mine
section
variable {stg es : List Dat} {pre : List Int} {k i : Int} {r : List Int}
theorem stg_start : (∀ d ∈ ([] : List Dat), IsTup d) ∧ ([] : List Dat).length ≤ ([] : List Int).length := ⟨List.forall_mem_nil _, Nat.le_refl _⟩
theorem stg_app (h : ∀ d ∈ stg, IsTup d) (hl : stg.length ≤ pre.length) (hr : r.length = 16) : (∀ d ∈ stg ++ [Dat.tuple [Dat.int i, Dat.list (r.map Dat.int)]], IsTup d) ∧ (stg ++ [Dat.tuple [Dat.int i, Dat.list (r.map Dat.int)]]).length ≤ (pre ++ [k]).length := by
  refine ⟨fun d hd => ?_, ?_⟩
  · rcases List.mem_append.mp hd with hd | hd
    · exact h d hd
    · rw [List.mem_singleton.mp hd]
      exact ⟨i, r, rfl, hr⟩
  · rw [List.length_append, List.length_append, List.length_singleton, List.length_singleton]
    omega
theorem stg_set (h : ∀ d ∈ es, IsTup d) (hl : es.length = stg.length) (hp : stg.length ≤ pre.length) : (∀ d ∈ es, IsTup d) ∧ es.length ≤ (pre ++ [k]).length := by
  refine ⟨h, ?_⟩
  rw [List.length_append, List.length_singleton]
  omega
end
end Mine
namespace Mine
section
variable {prog : Program} {w : World} {A : Around} {E : Value → Shared → Prop} {s : Shared} {h₀ : Heap} {L a : Addr} {news L9 : List (Addr × Obj)} {n : Nat} {u : Tok} {value slice : PySem.Expr} {v0 v1 : Value} {Q : Value → Shared → Prop}
end
end Mine
namespace Mine
section
variable {prog : Program} {w : World} {A : Around} {E : Value → Shared → Prop} {s : Shared} {h₀ : Heap} {L a b D : Addr} {m : Str → Option Value} {news news' src : List (Addr × Obj)} {us vs : List Value} {ds : List Dat} {ns : List Int} {n nn : Nat} {i : Int}
theorem app_tup {Q : Value → Shared → Prop} (F : Fr h₀ L s.heap m) (N : News h₀ L s.heap news) (U : Upd D (listOf vs.toArray n) (listOf (vs ++ [Value.ref a]).toArray (n + 1)) news news') {n2 : Nat} {t2 : Tok} (hm : (a, tupO [.int i t2, .ref b] n2) ∈ news) (hb : (b, listOf us.toArray nn) ∈ news) (hI : IntsAre us ns) (hl : ns.length = 16) (hd : DatAll src vs ds) (ht : ∀ d ∈ ds, IsTup d) (hz : ds.length ≤ 256)
    (h : ∀ h' es, Fr h₀ L h' m → News h₀ L h' news' → DatAll ((a, tupO [.int i t2, .ref b] n2) :: (b, listOf us.toArray nn) :: src) (vs ++ [Value.ref a]) es → (∀ d ∈ es, IsTup d) → es.length = ds.length + 1 → Q .none { s with heap := h' }) :
    wpAny (model prog w) A (call (.builtin "list.append") [.ref D, .ref a]) Q E s := by
  have e : (vs ++ [Value.ref a]).toArray = vs.toArray.push (Value.ref a) := by simp
  rw [e] at U
  refine append_K F N U (fun h' F' N' => h h' (ds ++ [Dat.tuple [Dat.int i, rowD ns]]) F' N' ?_ ?_ (by simp)) (by rw [List.size_toArray, hd.length, sizeLine_eq]; omega)
  · refine DatAll.append (DatAll.mono (fun p hp => List.mem_cons_of_mem _ (List.mem_cons_of_mem _ hp)) hd) (DatAll.one (DatIn.tuple List.mem_cons_self (.cons (.int _ _) (.cons (DatIn.list (List.mem_cons_of_mem _ List.mem_cons_self) (ints_dat hI)) .nil))))
  · intro d hdm
    rcases List.mem_append.mp hdm with hdm | hdm
    · exact ht d hdm
    · rw [List.mem_singleton.mp hdm]
      exact ⟨i, ns, rfl, hl⟩
end
section
variable {stg es : List Dat} {pre : List Int} {k : Int}
theorem stg_set1 (h : ∀ d ∈ es, IsTup d) (hl : es.length = stg.length + 1) (hp : stg.length ≤ pre.length) : (∀ d ∈ es, IsTup d) ∧ es.length ≤ (pre ++ [k]).length := by
  refine ⟨h, ?_⟩
  rw [List.length_append, List.length_singleton]
  omega
end
end Mine
namespace Mine
section
variable {h₀ : Heap} {x : Str}
theorem kd_end4 {τ : Type} {Led : List Value × List Dat × Nat → List (Addr × Obj)} {cst : List (Addr × Obj)} {ps : List Value × List Dat × Nat → List (Str × Value)} {Facts : List (Addr × Obj) → List Value × List Dat × Nat → Prop} {stored : List Str} {m₀ : Str → Option Value} {P : τ → List Value × List Dat × Nat → Prop} {adr : List Addr} {pre : τ} {vs vs' : List Value} {ds : List Dat} {n n' : Nat} {a1 a2 : Addr} {o1 o2 : Obj} {tl big1 big2 : List (Addr × Obj)} {L : Addr} {m' : Str → Option Value} {own news' : List (Addr × Obj)} {s₁ : Shared} {h' : Heap} {tk : Nat}
    (h0 : KdSep own tl adr) (F : Fr h₀ L h' m') (N : News h₀ L h' news') (hf : Facts (cst ++ ([(a1, o1), (a2, o2)] ++ tl)) (vs, ds, n)) (hn : ∀ p ∈ Led (vs, ds, n) ++ (cst ++ ([(a1, o1), (a2, o2)] ++ tl)), p ∈ news') (ho : ∀ p ∈ own, p ∈ news') (hadr : (Led (vs, ds, n) ++ cst).map (·.1) = adr)
    (l1 : ∀ q ∈ big1, q.1 < a1) (s1 : ∀ p ∈ Led (vs', [], n') ++ cst, p ∈ big1) (w1 : ∀ p ∈ own, p ∈ big1) (l2 : ∀ q ∈ big2, q.1 < a2) (s2 : ∀ p ∈ Led (vs', [], n') ++ cst, p ∈ big2) (w2 : ∀ p ∈ own, p ∈ big2) (hadr' : (Led (vs', [], n') ++ cst).map (·.1) = adr)
    (hk : ∀ p ∈ ps (vs, ds, n), m' p.1 = some p.2) (hr : ∀ z, z ≠ x → (∀ p ∈ ps (vs, ds, n), z ≠ p.1) → stored.contains z = false → m' z = m₀ z) (hp : P pre (vs, ds, n)) :
    InvEndG h₀ L (KdS Led cst ps Facts x stored m₀ P adr pre) own s₁ { s₁ with heap := h', toks := tk } := by
  refine kd_end (vs, ds, n) [(a1, o1), (a2, o2)] h0 F N hn ho hadr ?_ ?_ hk hr hf hp
  · intro q hq b hb
    rw [← hadr'] at hb
    obtain ⟨p, hp', rfl⟩ := List.mem_map.mp hb
    rcases List.mem_cons.mp hq with rfl | hq
    · exact Nat.ne_of_lt (l1 p (s1 p hp'))
    · rw [List.mem_singleton.mp hq]
      exact Nat.ne_of_lt (l2 p (s2 p hp'))
  · intro q hq p hp'
    rcases List.mem_cons.mp hq with rfl | hq
    · exact Nat.ne_of_lt (l1 p (w1 p hp'))
    · rw [List.mem_singleton.mp hq]
      exact Nat.ne_of_lt (l2 p (w2 p hp'))
end
end Mine
end
section
namespace Mine
def ComI (ds0 : List Dat) (B : Int) (n : Nat) (bl : List Dat) (bud wr : Int) (tg : List Int) : Prop :=
  (n = 0 ∧ bl = ds0 ∧ bud = B ∧ wr = 0 ∧ tg = []) ∨ (n = 1 ∧ B = 1 ∧ bud = 0 ∧ wr = 1 ∧ (∃ r : List Int, r.length = 16 ∧ bl = ds0.set 1 (rowD r)) ∧ tg.length = 1)
section
variable {ds0 bl : List Dat} {B bud wr x : Int} {n : Nat} {tg r : List Int} {pre : List Int} {k : Int}
theorem com_start : ComI ds0 B ([] : List Int).length ds0 B 0 [] := .inl ⟨rfl, rfl, rfl, rfl, rfl⟩
end
end Mine
end
section
open PySem.Calls PySem.Spec
namespace Mine
structure Caught (e T t : Addr) (cls : Value) (vs : List Value) (oe oT ot : Obj) : Prop where
  ecls : oe.cls = cls
  edat : ∃ ws, oe.data = .fields ws ∧ ws[0]? = some (.ref t) ∧ ws[1]? = some (.ref T)
  Tdat : ∃ ts, oT.data = .fields ts ∧ 3 < ts.size
  tdat : ot.cls = .type "tuple" ∧ ∃ n, ot.data = .seq vs.toArray n
  ne : T ≠ e
def OffX (e T t : Addr) (news : List (Addr × Obj)) : Prop := ∀ q ∈ news, q.1 ≠ e ∧ q.1 ≠ T ∧ q.1 ≠ t
theorem OffX.map {e T t : Addr} {news news' : List (Addr × Obj)} (h : OffX e T t news) (hm : ∀ q ∈ news', q.1 ∈ news.map (·.1)) : OffX e T t news' := fun q hq => by
  obtain ⟨p, hp, hpq⟩ := List.mem_map.mp (hm q hq)
  rw [← hpq]
  exact h p hp
def BareAt (g : Heap) (L e : Addr) (cls : Value) (t : Addr) (vs : List Value) (news : List (Addr × Obj)) (h : Heap) : Prop :=
  ∃ T oe ws oT ts, h.get? e = some oe ∧ (oe.cls = cls ∧ ws[0]? = some (.ref t)) ∧ oe.data = .fields ws ∧ ws[1]? = some (.ref T) ∧ T ≠ e ∧ h.get? T = some oT ∧ oT.data = .fields ts ∧ ts[3]? = some (rawInt L) ∧
    (g.get? e = none ∧ g.get? T = none ∧ g.get? t = none) ∧ (e ≠ L ∧ T ≠ L ∧ t ≠ L) ∧ h.TupAt t vs ∧ News g L h news ∧ OffX e T t news
section
variable {M : Model} {A : Around} {E : Value → Shared → Prop} {s' : Shared} {base g : Heap} {outer : List Env} {L a e t : Addr} {m : Str → Option Value} {name : Str} {scope : Scope} {cd : Value} {Q : Unit → Shared → Prop} {news : List (Addr × Obj)}
theorem leave_bare {cls : Value} {vs : List Value} (K : Below A base outer g) (F : Fr g L s'.heap m) (X : BareAt g L e cls t vs news s'.heap)
    (hQ : ∀ h', RaisedS base g outer e cls t vs news h' → RaisedK base outer e cls t vs news h' → g.UpToSlots h' → Q () { s' with heap := h' }) (hk : scope.kind = .function := by rfl) :
    wpAny M (A.deeper (envOf name scope L a cd)) (leaving (envOf name scope L a cd) (.ref e)) Q E s' := by
  obtain ⟨T, oe, ws, oT, ts, he, hc, hd, h1, hTe, hT, hdT, h3, ⟨ge, gT, gt⟩, ⟨neL, nTL, ntL⟩, htup, N, off⟩ := X
  have K' := K.push (name := name) (a := a) (cd := cd) F hk
  have hin : ∀ env ∈ (envOf name scope L a cd :: outer), ∀ b, env.frame = some b → b ∈ (envOf name scope L a cd :: outer).filterMap (·.frame) ++ [e, T, t] := fun env h9 b hb => List.mem_append.mpr (.inl (List.mem_filterMap.mpr ⟨env, h9, hb⟩))
  have notin : ∀ b, (∃ o, g.get? b = some o) → b ∉ outer.filterMap (·.frame) → b ∉ (envOf name scope L a cd :: outer).filterMap (·.frame) ++ [e, T, t] := fun b ⟨o, q⟩ nm hm => by
    rcases List.mem_append.mp hm with hm | hm
    · rcases kts_mem hm with z | z
      · rw [z, kts_self F] at q; cases q
      · exact nm z
    · simp only [List.mem_cons, List.not_mem_nil, or_false] at hm
      rcases hm with rfl | rfl | rfl
      · rw [ge] at q; cases q
      · rw [gT] at q; cases q
      · rw [gt] at q; cases q
  have st : base.StaysIn (hideAll s'.heap ((envOf name scope L a cd :: outer).filterMap (·.frame) ++ [e, T, t])) := fun b o q => hideAll_get _ (K'.stays b o q) (notin b ⟨o, K.stays b o q⟩ fun hm => by
    rw [(K.frames.mem hm).1] at q; cases q)
  have sg : ∀ b o, g.get? b = some o → b ∉ outer.filterMap (·.frame) → (hideAll s'.heap ((envOf name scope L a cd :: outer).filterMap (·.frame) ++ [e, T, t])).get? b = some o := fun b o q nm => hideAll_get _ (F.keep b o q) (notin b ⟨o, q⟩ nm)
  have hl : ∀ q ∈ news, (hideAll s'.heap ((envOf name scope L a cd :: outer).filterMap (·.frame) ++ [e, T, t])).get? q.1 = some q.2 ∧ g.get? q.1 = none ∧ base.get? q.1 = none := fun q hq => by
    refine ⟨hideAll_get _ (N q hq).1 fun hm => ?_, (N q hq).2.2, fresh_of_stays K.stays (N q hq).2.2⟩
    rcases List.mem_append.mp hm with hm | hm
    · rcases kts_mem hm with z | z
      · exact (N q hq).2.1 z
      · obtain ⟨o, ho, _⟩ := (K.frames.mem z).2
        rw [(N q hq).2.2] at ho; cases ho
    · have o9 := off q hq
      simp only [List.mem_cons, List.not_mem_nil, or_false] at hm
      rcases hm with z | z | z
      · exact o9.1 z
      · exact o9.2.1 z
      · exact o9.2.2 z
  have gone : ∀ b ∈ [e, T, t], (hideAll s'.heap ((envOf name scope L a cd :: outer).filterMap (·.frame) ++ [e, T, t])).get? b = none := fun b hb => hideAll_none _ (List.mem_append.mpr (.inr hb))
  have ff := funFrames_hide (as := (envOf name scope L a cd :: outer).filterMap (·.frame) ++ [e, T, t]) K'.frames hin
  have hh : Heap.HeldW (hideAll s'.heap ((envOf name scope L a cd :: outer).filterMap (·.frame) ++ [e, T, t])) (envOf name scope L a cd :: outer) e cls (.ref t) L s'.heap :=
    ⟨fun b o q => of_hideAll _ q, gone e (.head _), ff, oe, ws, T, oT, ts, he, hc, hd, h1, gone T (.tail _ (.head _)), hTe, hT, hdT, h3⟩
  unfold leaving
  refine wpAny_bind (wpAny_noteFrame_againW rfl hh.2.2.2 ?_)
  refine wpAny_landsW hh fun h' hfl hsm => ?_
  obtain ⟨k1, k2, ⟨_, _, k3⟩, k4⟩ := hfl
  have R : RaisedS base g outer e cls t vs news h' := ⟨⟨_, st, sg, hl, ⟨k1, k2, k3, k4⟩, gone t (.tail _ (.tail _ (.head _)))⟩, htup.of_slots hsm⟩
  exact hQ h' R R.toK ((Heap.UpToSlots.of_keeps F.keep).trans hsm)
end
section
variable {M : Model} {A : Around} {E : Value → Shared → Prop} {s : Shared} {g : Heap} {L a e T t : Addr} {m : Str → Option Value} {name : Str} {scope : Scope} {cd cls : Value} {vs : List Value} {Q : Flow → Shared → Prop} {news all : List (Addr × Obj)} {oe oT ot : Obj} {pos : Pos}
theorem raise_bare (hh : A.handled = some (.ref e)) (F : Fr g L s.heap m) (N : News g L s.heap all) (me : (e, oe) ∈ all) (mT : (T, oT) ∈ all) (mt : (t, ot) ∈ all) (sub : ∀ p ∈ news, p ∈ all) (C : Caught e T t cls vs oe oT ot) (off : OffX e T t news)
    (h : ∀ h', Fr g L h' m → BareAt g L e cls t vs news h' → E (.ref e) { s with heap := h' }) :
    wpAny M A (exec (.Raise none none pos) (envOf name scope L a cd)) Q E s := by
  obtain ⟨ecls, ⟨ws, hd, h0, h1⟩, ⟨ts, hdT, hsz⟩, ⟨tc, nt, td⟩, hTe⟩ := C
  have he := (N _ me).1
  have hT := (N _ mT).1
  have ht := (N _ mt).1
  rw [arm_exec_Raise]
  refine wpAny_bind (wpAny_standAt ?_)
  show wpAny M A (raiseStmt (envOf name scope L a cd) none none) Q E s
  unfold raiseStmt
  refine wpAny_bind (wpAny_handled ?_)
  rw [hh]
  dsimp only
  refine wpAny_bind (wpAny_rule ?_)
  refine wpAny_bind (wpAny_field he hd h1 ?_)
  rw [if_neg (show ¬ ((Value.ref T == Value.none) = true) from by simp)]
  unfold setFlight
  refine wpAny_bind (wpAny_bind (wpAny_field he hd h1 ?_))
  rw [if_pos (show (Value.ref T != Value.none) = true from by simp)]
  have other : ∀ b, b ≠ T → (s.heap.update T (Obj.mapFields (·.setIfInBounds 3 ((envOf name scope L a cd).frame.elim Value.none fun f => rawInt f)))).get? b = s.heap.get? b := fun b hb => Heap.get?_update_other _ _ (Ne.symm hb)
  refine wpAny_setField hT hdT hsz (wpAny_throw (h _ ?_ ?_))
  · exact F.change (Heap.SameBut.update ..) (N _ mT).2.1 (N _ mT).2.2
  · have htT : t ≠ T := fun q => by
      have := ht
      show False
      rw [q] at this
      have z := hT.symm.trans this
      have z' := Option.some.inj z
      subst z'
      rw [hdT] at td
      cases td
    refine ⟨T, oe, ws, _, _, (other e (Ne.symm hTe)).trans he, ⟨ecls, h0⟩, hd, h1, hTe, Heap.get?_update_self _ hT (Obj.isFreed_of_fields (Obj.data_mapFields hdT _)), Obj.data_mapFields hdT _, ?_, ⟨(N _ me).2.2, (N _ mT).2.2, (N _ mt).2.2⟩, ⟨(N _ me).2.1, (N _ mT).2.1, (N _ mt).2.1⟩, ⟨ot, nt, (other t htT).trans ht, tc, td⟩, fun q hq => ⟨(other q.1 (off q hq).2.1).trans (N _ (sub q hq)).1, (N _ (sub q hq)).2⟩, off⟩
    simp [hsz, envOf]
end
section
variable {prog : Program} {w : World} {A₀ : Around} {E : Value → Shared → Prop} {s' : Shared} {base g g₀ G : Heap} {outer : List Env} {L a e t C : Addr} {m : Str → Option Value} {name : Str} {scope : Scope} {cd : Value}
  {vs : List Value} {b₀ : Stmt} {suite : List Stmt} {pos np : Pos} {rest : List ExceptHandler} {Q : Flow → Shared → Prop} {news : List (Addr × Obj)} {KF : Frag}
  {p : Program} {loose : List Str} {mean : ExcName → Option Value} {mg mb : Str → Option Value} {x : Str}
theorem caught_again (R : RaisedS base G (envOf name scope L a cd :: outer) e (.ref C) t vs news s'.heap) (F : Fr g L G m) (K : Below A₀ base outer g) (hsm : G.UpToSlots s'.heap) (XB : KF.In base) (TB : Top p loose mean mg mb base)
    (D : KtsDicts (outer.filterMap (·.frame)) g) (T0 : KtsTurn (outer.filterMap (·.frame)) g₀ g)
    (ex : nsIn KF mainGlobals x = some (some (.ref C))) (q : ktsIn KF C "BaseException" = true)
    (k : ∀ h' g' T oe oT ot, KtsTurn (outer.filterMap (·.frame)) g₀ g' → Fr g' L h' m → News g' L h' ((e, oe) :: (T, oT) :: (t, ot) :: news) → Caught e T t (.ref C) vs oe oT ot → OffX e T t news → Below A₀ base outer g' → KF.In g' → Top p loose mean mg mb g' → KtsDicts (outer.filterMap (·.frame)) g' →
      wpAny (model prog w) ((A₀.deeper (envOf name scope L a cd)).mark (some (.ref e))) (execs (b₀ :: suite) (envOf name scope L a cd)) Q E { s' with heap := h' })
    (hk : scope.kind = .function := by rfl) (hx : (envOf name scope L a cd).kindOf x = some .globalImplicit := by rfl) (hd : (x == ("__debug__" : Str)) = false := by decide)
    (hE : PassesOwnAt (model prog w) ((A₀.deeper (envOf name scope L a cd)).mark (some (.ref e))) (A₀.deeper (envOf name scope L a cd)) (envOf name scope L a cd) E := by passes_own) :
    wpAny (model prog w) (A₀.deeper (envOf name scope L a cd)) (noteFrame (.ref e) (envOf name scope L a cd))
      (fun _ s₂ => wpAny (model prog w) (A₀.deeper (envOf name scope L a cd)) (setFlight (.ref e) none) (fun _ s₃ =>
        wpAny (model prog w) (A₀.deeper (envOf name scope L a cd)) (handleBy (.ref e) (envOf name scope L a cd) (.ExceptHandler (some (.Name x np)) none (b₀ :: suite) pos :: rest)) Q E s₃) E s₂) E s' := by
  obtain ⟨⟨B, hB, hBG, hl, hfl, hnew⟩, htup⟩ := R
  have hL : B.get? L = none := by
    obtain ⟨_, ⟨L', _, hf, hn', _⟩, _⟩ := hfl.2.2.1
    obtain rfl : L = L' := Option.some.inj hf
    exact hn'
  refine wpAny_looks_onW (Around.frames_deeper K.stack) rfl hfl fun h₄ hheld₄ hsm₄ => ?_
  refine wpAny_landsW hheld₄ fun h₅ hheld hsm₅' => ?_
  have hsm₅ := hsm₄.trans hsm₅'
  obtain ⟨g₅, T₅, F₅, K₅⟩ := kts_ground K F hBG hheld.1 (hsm.trans hsm₅)
  have X₅ : KF.In g₅ := XB.keeps K₅.stays
  have P₅ : TopRead p loose mg mb g₅ := topRead_of (TB.keeps K₅.stays)
  obtain ⟨ob, hob, hobc⟩ := hheld.there
  obtain ⟨nm, q', N, bs, bm, hdct, sn, sub, ab, col, dd, k0, k1, k2, k3, k5, newId, hC, hbase, hbT⟩ := kts_cls X₅ q
  refine wpAny_handleBy_cons (codeAny_handlers_test (name_K F₅ X₅ P₅ ex ?_ hk hx hd)) (by intro q; cases q)
  refine wpAny_excMatches_sub_self (F₅.keep _ _ hC) hob hobc hbase (codeAny_handlers_suite ?_)
  refine lands_againW hheld fun h₆ hfl₆ hsm₆ => ?_
  obtain ⟨g₆, T₆, F₆, K₆⟩ := kts_ground K F hBG hfl₆.1 ((hsm.trans hsm₅).trans hsm₆)
  have htup₆ := (htup.of_slots hsm₅).of_slots hsm₆
  obtain ⟨ot, nt, hot, hotc, hotd⟩ := htup₆
  have sm₆ := (hsm.trans hsm₅).trans hsm₆
  have freshF : ∀ b o ws, B.get? b = none → h₆.get? b = some o → o.data = .fields ws → g₆.get? b = none := fun b o ws hb ho hw => T₆.none_ _ (kts_fresh F hBG hb fun o' ho' m => by
    obtain ⟨_, o2, ho2, hd2⟩ := K.frames.mem m
    rw [ho'] at ho2
    cases ho2
    obtain ⟨sl, hs⟩ := sm₆ _ _ (F.keep _ _ ho') hd2
    rw [ho] at hs
    cases hs
    exact hd2 _ hw)
  obtain ⟨f1, f2, f3, oe, ws, T, oT, ts, he, ⟨hec, he0⟩, hed, he1, hTB, hTe, hT, hTd, hT3⟩ := hfl₆
  have ne₆ : g₆.get? e = none := freshF e oe ws f2 he hed
  have nT₆ : g₆.get? T = none := freshF T oT ts hTB hT hTd
  have nt₆ : g₆.get? t = none := T₆.none_ _ (kts_fresh F hBG hnew fun o ho m => by
    obtain ⟨o', es, n', ho', hd'⟩ := D _ m
    rw [ho] at ho'
    cases ho'
    obtain ⟨sl, hs⟩ := sm₆ _ _ (F.keep _ _ ho) (fun vs q => by rw [hd'] at q; cases q)
    rw [hot] at hs
    cases hs
    have z := hd'.symm.trans hotd
    cases z)
  have Nl : News g₆ L h₆ news := fun q hq => ⟨f1 _ _ (hl q hq).1, (fun z => by have := (hl q hq).1; rw [z, hL] at this; cases this), T₆.none_ _ (kts_none F.keep (hl q hq).2.1)⟩
  have N₆ := News.more F₆ (News.more F₆ (News.more F₆ Nl hot (fun es n q => by rw [hotd] at q; cases q) nt₆) hT (fun es n q => by rw [hTd] at q; cases q) nT₆) he (fun es n q => by rw [hed] at q; cases q) ne₆
  have off : OffX e T t news := fun q hq => by
    have hb := (hl q hq).1
    refine ⟨fun z => ?_, fun z => ?_, fun z => ?_⟩
    · rw [z, f2] at hb; cases hb
    · rw [z, hTB] at hb; cases hb
    · rw [z, hnew] at hb; cases hb
  exact wpAny_passesOwnAt hE (k h₆ g₆ T oe oT ot (T0.trans T₆) F₆ N₆ ⟨hec, ⟨ws, hed, he0, he1⟩, ⟨ts, hTd, (Array.getElem?_eq_some_iff.mp hT3).1⟩, ⟨hotc, nt, hotd⟩, hTe⟩ off K₆ (XB.keeps K₆.stays) (TB.keeps K₆.stays) (D.turn T₆))
end
end Mine
end
section
namespace Mine
theorem ne_chT {l : List (Addr × Obj)} {d x : Addr} (h2 : @LT.lt Nat _ d x) (h1 : ∀ q ∈ l, q.1 < d) (p : Addr × Obj) (hm : p ∈ l) : p.1 ≠ x := fun e => by
  have h3 : @LT.lt Nat _ p.1 d := h1 _ hm
  rw [e] at h3
  exact absurd (Nat.lt_trans h2 h3) (Nat.lt_irrefl _)
theorem ne_ltT {l : List (Addr × Obj)} {x : Addr} (h1 : ∀ q ∈ l, q.1 < x) (p : Addr × Obj) (hm : p ∈ l) : p.1 ≠ x := Nat.ne_of_lt (h1 p hm)
section
variable {prog : Program} {w : World} {A : Around} {E : Value → Shared → Prop} {s : Shared} {env : Env} {Q : Flow → Shared → Prop} {h₀ : Heap} {L : Addr} {m : Str → Option Value} {T1 T2 : List (Addr × Obj)} {ls x d ab x1 d1 ld C C1 : Addr} {oS oab oD : Obj} {g1 g2 g3 g4 g5 g6 : Addr × Obj}
  {hA hB hC hD hE hF hG hH : Int} {kA kB kC kD kE kF kG kH : Str} {u1 u2 u3 u4 u5 u6 u7 u8 v7 v8 v2 v3 : Tok} {iS iG B W : Int} {vD : Value} {n1 n2 : Nat} {ys dv : List Value} {dsB dd : List Dat} {c : List Stmt}
theorem hide28 (F : Fr h₀ L s.heap m) (N : News h₀ L s.heap ((ls, oS) :: (x, instObj C d) :: (d, dictOf [⟨hA, .str kA u1, .ref x1⟩, ⟨hB, .str kB u2, .int iS v2⟩, ⟨hC, .str kC u3, .int iG v3⟩, ⟨hD, .str kD u4, .ref ls⟩, ⟨hE, .str kE u5, vD⟩] n1) :: (ab, oab) :: (x1, instObj C1 d1) :: (d1, dictOf [⟨hF, .str kF u6, .ref ab⟩, ⟨hG, .str kG u7, .int B v7⟩, ⟨hH, .str kH u8, .int W v8⟩] n2) :: g1 :: g2 :: g3 :: g4 :: g5 :: (ld, oD) :: g6 :: (T1 ++ T2)))
    (hy : DatAll T2 ys dsB) (hd : DatAll T1 dv dd)
    (o1 : ∀ q ∈ T1 ++ T2, q.1 ≠ ls) (o2 : ∀ q ∈ T1 ++ T2, q.1 ≠ x) (o3 : ∀ q ∈ T1 ++ T2, q.1 ≠ d) (o4 : ∀ q ∈ T1 ++ T2, q.1 ≠ ab) (o5 : ∀ q ∈ T1 ++ T2, q.1 ≠ x1) (o6 : ∀ q ∈ T1 ++ T2, q.1 ≠ d1) (o7 : ∀ q ∈ T1 ++ T2, q.1 ≠ ld)
    (e1 : ∀ b ∈ [x, d, ab, x1, d1, ld], b ≠ ls) (e2 : ∀ b ∈ [d, ab, x1, d1, ld], b ≠ x) (e3 : ∀ b ∈ [ab, x1, d1, ld], b ≠ d) (e4 : ∀ b ∈ [x1, d1, ld], b ≠ ab) (e5 : ∀ b ∈ [d1, ld], b ≠ x1) (e6 : ∀ b ∈ [ld], b ≠ d1)
    (h : ∀ (u1 u2 u3 u4 u5 u6 u7 u8 v2 v3 v7 v8 : Tok) (hp : Heap) (tk : Nat) (R : List (Addr × Obj)), Fr h₀ L hp m →
      News h₀ L hp ((ls, oS) :: (x, instObj C d) :: (d, dictOf [⟨hA, .str kA u1, .ref x1⟩, ⟨hB, .str kB u2, .int iS v2⟩, ⟨hC, .str kC u3, .int iG v3⟩, ⟨hD, .str kD u4, .ref ls⟩, ⟨hE, .str kE u5, vD⟩] n1) :: (ab, oab) :: (x1, instObj C1 d1) :: (d1, dictOf [⟨hF, .str kF u6, .ref ab⟩, ⟨hG, .str kG u7, .int B v7⟩, ⟨hH, .str kH u8, .int W v8⟩] n2) :: (ld, oD) :: R) →
      DatAll R ys dsB → DatAll R dv dd → (∀ q ∈ R, q.1 ≠ ls) → (∀ q ∈ R, q.1 ≠ x) → (∀ q ∈ R, q.1 ≠ d) → (∀ q ∈ R, q.1 ≠ ab) → (∀ q ∈ R, q.1 ≠ x1) → (∀ q ∈ R, q.1 ≠ d1) → (∀ q ∈ R, q.1 ≠ ld) →
      ((x ≠ ls ∧ d ≠ ls ∧ ab ≠ ls ∧ x1 ≠ ls ∧ d1 ≠ ls ∧ ld ≠ ls) ∧ (d ≠ x ∧ ab ≠ x ∧ x1 ≠ x ∧ d1 ≠ x ∧ ld ≠ x) ∧ (ab ≠ d ∧ x1 ≠ d ∧ d1 ≠ d ∧ ld ≠ d) ∧ (x1 ≠ ab ∧ d1 ≠ ab ∧ ld ≠ ab) ∧ (d1 ≠ x1 ∧ ld ≠ x1) ∧ ld ≠ d1) →
      wpAny (model prog w) A (execs c env) Q E { s with heap := hp, toks := tk }) : wpAny (model prog w) A (execs c env) Q E s := by
  refine h u1 u2 u3 u4 u5 u6 u7 u8 v2 v3 v7 v8 s.heap s.toks (T1 ++ T2) F (fun p hp => N p ?_) (DatAll.mono (fun p hp => List.mem_append.mpr (.inr hp)) hy) (DatAll.mono (fun p hp => List.mem_append.mpr (.inl hp)) hd) o1 o2 o3 o4 o5 o6 o7 ?_
  · simp only [List.mem_cons] at hp ⊢
    rcases hp with h | h | h | h | h | h | h | h <;> simp only [h, true_or, or_true]
  · simp only [List.forall_mem_cons] at e1 e2 e3 e4 e5 e6
    exact ⟨⟨e1.1, e1.2.1, e1.2.2.1, e1.2.2.2.1, e1.2.2.2.2.1, e1.2.2.2.2.2.1⟩, ⟨e2.1, e2.2.1, e2.2.2.1, e2.2.2.2.1, e2.2.2.2.2.1⟩, ⟨e3.1, e3.2.1, e3.2.2.1, e3.2.2.2.1⟩, ⟨e4.1, e4.2.1, e4.2.2.1⟩, ⟨e5.1, e5.2.1⟩, e6.1⟩
end
end Mine
end
section
namespace Mine
def U16 (o : Obj) : Prop := ∃ (us : List Value) (n : Nat) (ns : List Int), o = listOf us.toArray n ∧ IntsAre us ns ∧ ns.length = 16
theorem u16_dict {es : List DictEntry} {n : Nat} : ¬ U16 (dictOf es n) := fun ⟨us, k, ns, e, hi, _⟩ => no_dict ⟨us, k, ns, e, hi⟩
theorem u16_inst {C d : Addr} : ¬ U16 (instObj C d) := by
  rintro ⟨us, k, ns, e, _⟩
  have := congrArg Obj.data e
  cases this
theorem u16_rows {src : List (Addr × Obj)} {ys : List Value} {ds : List Dat} {k : Nat} (h : DatAll src ys ds) (hr : ∀ d ∈ ds, IsRow d) (h0 : 0 < ds.length) : ¬ U16 (listOf ys.toArray k) := fun ⟨us, n, ns, e, hi, _⟩ => no_rows h hr h0 ⟨us, n, ns, e, hi⟩
theorem u16_short {us : List Value} {k : Nat} (h : us.length < 16) : ¬ U16 (listOf us.toArray k) := by
  rintro ⟨vs, n, ns, e, hi, hl⟩
  have e1 := congrArg Obj.data e
  have e2 : us.toArray = vs.toArray := by injection e1
  have e3 : us = vs := by simpa using e2
  subst e3
  have := hi.length
  omega
theorem rows_move16 {src src' : List (Addr × Obj)} (hs : ∀ p ∈ src, U16 p.2 → p ∈ src') : ∀ {vs : List Value} {ds : List Dat}, DatAll src vs ds → (∀ d ∈ ds, IsRow d) → DatAll src' vs ds
  | _, _, .nil, _ => .nil
  | _, _, .cons h hs', hr => by
    refine .cons ?_ (rows_move16 hs hs' fun d hd => hr d (List.mem_cons_of_mem _ hd))
    obtain ⟨a, us, n, ns, rfl, q1, q2, rfl, q4⟩ := row_in h (hr _ List.mem_cons_self)
    exact DatIn.list (hs _ q1 ⟨us, n, ns, rfl, q2, q4⟩) (ints_dat q2)
structure Cst where
  x : Addr
  d : Addr
  ab : Addr
  x1 : Addr
  d1 : Addr
  ld : Addr
  C : Addr
  C1 : Addr
  e1 : DictEntry
  e2 : DictEntry
  e3 : DictEntry
  e4 : DictEntry
  hE : Int
  kE : Value
  f1 : DictEntry
  hG : Int
  kG : Value
  hH : Int
  kH : Value
  dv : List Value
  nD : Nat
  n1 : Nat
  n2 : Nat
def Cst.led (c : Cst) (lost : Bool) (bv : List Value) (nb : Nat) (bud : Int) (t1 : Tok) (wr : Int) (t2 : Tok) : List (Addr × Obj) :=
  [(c.x, instObj c.C c.d), (c.d, dictOf [c.e1, c.e2, c.e3, c.e4, ⟨c.hE, c.kE, .bool lost⟩] c.n1), (c.ab, listOf bv.toArray nb), (c.x1, instObj c.C1 c.d1), (c.d1, dictOf [c.f1, ⟨c.hG, c.kG, .int bud t1⟩, ⟨c.hH, c.kH, .int wr t2⟩] c.n2), (c.ld, listOf c.dv.toArray c.nD)]
def Cst.six (c : Cst) : List Addr := [c.x, c.d, c.ab, c.x1, c.d1, c.ld]
def Aft (B : Int) (lost : Bool) (ds0 ds : List Dat) (bud wr : Int) (k : Nat) : Prop :=
  ds.length = ds0.length ∧ (∀ d ∈ ds, IsRow d) ∧ ds.drop k = ds0.drop k ∧ (lost = false → (B = -1 ∨ B = 2) ∧ bud = B ∧ wr = 0 ∧ ds = ds0)
def MidD (h₀ : Heap) (L : Addr) (m : Str → Option Value) (c : Cst) (dd ds0 : List Dat) (B : Int) (k : Nat) (s s' : Shared) : Prop :=
  ∃ (lost : Bool) (bv : List Value) (nb : Nat) (bud : Int) (t1 : Tok) (wr : Int) (t2 : Tok) (ds : List Dat) (R' : List (Addr × Obj)) (h : Heap) (tk : Nat) (u : Str → Option Value), s' = { s with heap := h, toks := tk } ∧
    Fr h₀ L h (fun y => if y = Str.ofString "zz" then u y else kstB (fun z => if ([] : List Str).contains z then u z else m z) [(Str.ofString "lost", Value.bool lost)] y) ∧
    News h₀ L h (c.led lost bv nb bud t1 wr t2 ++ R') ∧ DatAll R' bv ds ∧ DatAll R' c.dv dd ∧ (∀ q ∈ R', q.1 ∉ c.six) ∧ Aft B lost ds0 ds bud wr k
section
variable {prog : Program} {w : World} {A : Around} {E : Value → Shared → Prop} {s : Shared} {env : Env} {Q : Flow → Shared → Prop} {h₀ : Heap} {L : Addr} {m m' : Str → Option Value} {R all src : List (Addr × Obj)} {c : Cst} {dd ds0 ds : List Dat} {B bud wr : Int} {k nb : Nat} {lost : Bool} {bv : List Value} {t1 t2 : Tok}
theorem MidD.mk {h' : Heap} {tk : Nat} (F : Fr h₀ L h' m') (N : News h₀ L h' all)
    (hk : ∀ p ∈ [(Str.ofString "lost", Value.bool lost)], m' p.1 = some p.2) (hr : ∀ z, z ≠ Str.ofString "zz" → (∀ p ∈ [(Str.ofString "lost", Value.bool lost)], z ≠ p.1) → ([] : List Str).contains z = false → m' z = m z)
    (ml : ∀ p ∈ c.led lost bv nb bud t1 wr t2, p ∈ all) (hD : DatAll R c.dv dd) (mR : ∀ p ∈ R, p ∈ all) (oR : ∀ q ∈ R, q.1 ∉ c.six) (hl : c.dv.length < 16) (hd : DatAll src bv ds) (su : ∀ p ∈ src, U16 p.2 → p ∈ all) (h0' : 0 < ds0.length) (aft : Aft B lost ds0 ds bud wr k) :
    MidD h₀ L m c dd ds0 B k s { s with heap := h', toks := tk } := by
  have hrow := aft.2.1
  have h0 : 0 < ds.length := by rw [aft.1]; exact h0'
  have no : ∀ p ∈ c.led lost bv nb bud t1 wr t2, ¬ U16 p.2 := by
    intro p hp
    simp only [Cst.led, List.mem_cons, List.not_mem_nil, or_false] at hp
    rcases hp with rfl | rfl | rfl | rfl | rfl | rfl
    · exact u16_inst
    · exact u16_dict
    · exact u16_rows hd hrow h0
    · exact u16_inst
    · exact u16_dict
    · exact u16_short hl
  have six : ∀ a ∈ c.six, ∃ o, (a, o) ∈ c.led lost bv nb bud t1 wr t2 := by
    intro a ha
    simp only [Cst.six, List.mem_cons, List.not_mem_nil, or_false] at ha
    rcases ha with rfl | rfl | rfl | rfl | rfl | rfl
    · exact ⟨_, List.mem_cons_self⟩
    · exact ⟨_, List.mem_cons_of_mem _ List.mem_cons_self⟩
    · exact ⟨_, List.mem_cons_of_mem _ (List.mem_cons_of_mem _ List.mem_cons_self)⟩
    · exact ⟨_, List.mem_cons_of_mem _ (List.mem_cons_of_mem _ (List.mem_cons_of_mem _ List.mem_cons_self))⟩
    · exact ⟨_, List.mem_cons_of_mem _ (List.mem_cons_of_mem _ (List.mem_cons_of_mem _ (List.mem_cons_of_mem _ List.mem_cons_self)))⟩
    · exact ⟨_, List.mem_cons_of_mem _ (List.mem_cons_of_mem _ (List.mem_cons_of_mem _ (List.mem_cons_of_mem _ (List.mem_cons_of_mem _ List.mem_cons_self))))⟩
  have off : ∀ p ∈ all, U16 p.2 → p.1 ∉ c.six := by
    intro p hp hu hm
    obtain ⟨o, ho⟩ := six _ hm
    have q1 := (N _ hp).1
    have q2 := (N _ (ml _ ho)).1
    have q3 : p.2 = o := Option.some.inj (q1.symm.trans q2)
    exact no _ ho (q3 ▸ hu)
  refine ⟨lost, bv, nb, bud, t1, wr, t2, ds, all.filter (fun p => decide (p.1 ∉ c.six)), h', tk, m', rfl, kst_frOut hk hr F, fun p hp => ?_, rows_move16 (fun p hp hu => ?_) hd hrow, DatAll.mono (fun p hp => ?_) hD, fun q hq => ?_, aft⟩
  · rcases List.mem_append.mp hp with hp | hp
    · exact N _ (ml p hp)
    · exact N _ (List.mem_filter.mp hp).1
  · exact List.mem_filter.mpr ⟨su p hp hu, decide_eq_true (off p (su p hp hu) hu)⟩
  · exact List.mem_filter.mpr ⟨mR p hp, decide_eq_true (oR p hp)⟩
  · exact of_decide_eq_true (List.mem_filter.mp hq).2
theorem six_ne {q : Addr × Obj} (h : q.1 ∉ c.six) : q.1 ≠ c.x ∧ q.1 ≠ c.d ∧ q.1 ≠ c.ab ∧ q.1 ≠ c.x1 ∧ q.1 ≠ c.d1 ∧ q.1 ≠ c.ld := by
  simp only [Cst.six, List.mem_cons, List.not_mem_nil, or_false, not_or] at h
  exact h
theorem six_of {R : List (Addr × Obj)} (o2 : ∀ q ∈ R, q.1 ≠ c.x) (o3 : ∀ q ∈ R, q.1 ≠ c.d) (o4 : ∀ q ∈ R, q.1 ≠ c.ab) (o5 : ∀ q ∈ R, q.1 ≠ c.x1) (o6 : ∀ q ∈ R, q.1 ≠ c.d1) (o7 : ∀ q ∈ R, q.1 ≠ c.ld) : ∀ q ∈ R, q.1 ∉ c.six := fun q hq => by
  simp only [Cst.six, List.mem_cons, List.not_mem_nil, or_false, not_or]
  exact ⟨o2 q hq, o3 q hq, o4 q hq, o5 q hq, o6 q hq, o7 q hq⟩
end
section
variable {prog : Program} {w : World} {A : Around} {E : Value → Shared → Prop} {s : Shared} {env : Env} {Q : Flow → Shared → Prop} {h₀ : Heap} {L : Addr} {m : Str → Option Value} {rest : List (Addr × Obj)} {g1 : Addr × Obj} {x d ab x1 d1 ld C C1 : Addr} {e1 e2 e3 e4 f1 : DictEntry} {hE hG hH : Int} {kE kG kH vE vG vH : Value} {oab : Obj} {dv : List Value} {nD n1 n2 : Nat} {dd ds0 : List Dat}
theorem cutD (_F : Fr h₀ L s.heap m) (_N : News h₀ L s.heap (g1 :: (x, instObj C d) :: (d, dictOf [e1, e2, e3, e4, ⟨hE, kE, vE⟩] n1) :: (ab, oab) :: (x1, instObj C1 d1) :: (d1, dictOf [f1, ⟨hG, kG, vG⟩, ⟨hH, kH, vH⟩] n2) :: (ld, listOf dv.toArray nD) :: rest)) (B : Int) (k : Nat) (dd ds0 : List Dat) (a b : List Stmt)
    (h1 : wpAny (model prog w) A (execs a env) (fun f s' => match f with | .next => MidD h₀ L m ⟨x, d, ab, x1, d1, ld, C, C1, e1, e2, e3, e4, hE, kE, f1, hG, kG, hH, kH, dv, nD, n1, n2⟩ dd ds0 B k s s' | f => Q f s') E s)
    (h2 : ∀ (lost : Bool) (bv : List Value) (nb : Nat) (bud : Int) (t1 : Tok) (wr : Int) (t2 : Tok) (ds : List Dat) (R' : List (Addr × Obj)) (h : Heap) (tk : Nat) (u : Str → Option Value),
      Fr h₀ L h (fun y => if y = Str.ofString "zz" then u y else kstB (fun z => if ([] : List Str).contains z then u z else m z) [(Str.ofString "lost", Value.bool lost)] y) →
      News h₀ L h ((x, instObj C d) :: (d, dictOf [e1, e2, e3, e4, ⟨hE, kE, .bool lost⟩] n1) :: (ab, listOf bv.toArray nb) :: (x1, instObj C1 d1) :: (d1, dictOf [f1, ⟨hG, kG, .int bud t1⟩, ⟨hH, kH, .int wr t2⟩] n2) :: (ld, listOf dv.toArray nD) :: R') → DatAll R' bv ds → DatAll R' dv dd →
      ((∀ q ∈ R', q.1 ≠ x) ∧ (∀ q ∈ R', q.1 ≠ d) ∧ (∀ q ∈ R', q.1 ≠ ab) ∧ (∀ q ∈ R', q.1 ≠ x1) ∧ (∀ q ∈ R', q.1 ≠ d1) ∧ (∀ q ∈ R', q.1 ≠ ld)) → Aft B lost ds0 ds bud wr k →
      wpAny (model prog w) A (execs b env) Q E { s with heap := h, toks := tk }) : wpAny (model prog w) A (execs (a ++ b) env) Q E s :=
  cut_at _ a b h1 (by
    rintro s' ⟨lost, bv, nb, bud, t1, wr, t2, ds, R', h, tk, u, rfl, F', N', q1, q2, q3, q4⟩
    refine h2 lost bv nb bud t1 wr t2 ds R' h tk u F' N' q1 q2 ⟨fun q hq => (six_ne (q3 q hq)).1, fun q hq => (six_ne (q3 q hq)).2.1, fun q hq => (six_ne (q3 q hq)).2.2.1, fun q hq => (six_ne (q3 q hq)).2.2.2.1, fun q hq => (six_ne (q3 q hq)).2.2.2.2.1, fun q hq => (six_ne (q3 q hq)).2.2.2.2.2⟩ q4)
end
def TestEnd (P : Bool → Prop) (s : Shared) (b : Bool) (s' : Shared) : Prop := ∃ tk, s' = { s with toks := tk } ∧ P b
theorem test_meet {M : Model} {A : Around} {E : Value → Shared → Prop} {s : Shared} {c : Sem Bool} {Q : Bool → Shared → Prop} (P : Bool → Prop) (h1 : wpAny M A c (fun b s' => TestEnd P s b s') E s) (h2 : ∀ b tk, P b → Q b { s with toks := tk }) : wpAny M A c Q E s :=
  wpAny_mono h1 (by rintro b s' ⟨tk, rfl, hp⟩; exact h2 b tk hp) (fun _ _ x => x)
theorem due_short {R : List (Addr × Obj)} {dv : List Value} {ns : List Int} {rS : Int} (h : DatAll R dv (dueD ns (rangeKs 0 (1 + rS - 0).toNat))) (h0 : 0 ≤ rS) (h1 : rS < 3) : dv.length < 16 := by
  have := due_len (ns := ns) (pre := rangeKs 0 (1 + rS - 0).toNat)
  rw [rangeKs_length] at this
  have e := h.length
  omega
theorem ds_pos {rG : Int} {r : Dat} {T ds : List Dat} (h : 0 ≤ rG) (e : ds.length = (List.replicate (1 + (1 + rG)).toNat r ++ T).length) : 0 < ds.length := by
  rw [e, List.length_append, List.length_replicate]
  omega
theorem aft_le {rG rS : Int} {r : Dat} {ns : List Int} {ds : List Dat} {B bud wr : Int} {lost : Bool} {k : Nat} (h : Aft B lost (List.replicate (1 + (1 + rG)).toNat r ++ tabD ns (rangeKs 0 (1 + rS - 0).toNat)) ds bud wr k) (g : rG < 3) (g' : rS < 3) : ds.length ≤ 256 := by
  rw [h.1, List.length_append, List.length_replicate, tab_len, rangeKs_length]
  omega
theorem aft_eq {rG rS : Int} {r : Dat} {ns : List Int} {ds : List Dat} {B bud wr : Int} {lost : Bool} {k : Nat} (h : Aft B lost (List.replicate (1 + (1 + rG)).toNat r ++ tabD ns (rangeKs 0 (1 + rS - 0).toNat)) ds bud wr k) (g : 0 ≤ rG) (g' : 0 ≤ rS) : (ds.length : Int) = 3 + rG + rS := by
  rw [h.1, List.length_append, List.length_replicate, tab_len, rangeKs_length]
  omega
section
variable {ds0 bl : List Dat} {B bud wr : Int} {n k : Nat} {tg : List Int}
theorem aft_skip (h0 : ∀ d ∈ ds0, IsRow d) (hb : ¬ (B = 0 ∨ B = 1)) (hlo : -1 ≤ B) (hhi : B < 3) : Aft B false ds0 ds0 B 0 k := ⟨rfl, h0, rfl, fun _ => ⟨by omega, rfl, rfl, rfl⟩⟩
theorem aft_same (h0 : ∀ d ∈ ds0, IsRow d) : Aft B true ds0 ds0 bud wr k := ⟨rfl, h0, rfl, fun e => nomatch e⟩
theorem aft_set {r : List Int} {j : Nat} (h0 : ∀ d ∈ ds0, IsRow d) (hr : r.length = 16) (hj : j < k) : Aft B true ds0 (ds0.set j (rowD r)) bud wr k := by
  refine ⟨List.length_set .., fun d hd => ?_, ?_, fun e => nomatch e⟩
  · rcases List.mem_or_eq_of_mem_set hd with hd | rfl
    · exact h0 d hd
    · exact ⟨r, rfl, hr⟩
  · rw [List.drop_set, if_pos hj]
theorem set00 {rG : Int} {r a b : Dat} {T : List Dat} (h : 0 ≤ rG) (ha : a = r) (hb : b = r) : ((List.replicate (1 + (1 + rG)).toNat r ++ T).set 0 a).set 0 b = List.replicate (1 + (1 + rG)).toNat r ++ T := by
  subst ha; subst hb
  obtain ⟨n, hn⟩ : ∃ n, (1 + (1 + rG)).toNat = n + 1 := ⟨(1 + rG).toNat, by omega⟩
  rw [hn, List.replicate_succ]
  rfl
end
end Mine
end
section
open PySem.Calls PySem.Spec
namespace Mine
section
variable {e T t a : Addr} {o : Obj} {news news' l₁ l₂ : List (Addr × Obj)}
theorem offx_e (h : OffX e T t news) (hm : (a, o) ∈ news) : a ≠ e := (h _ hm).1
theorem offx_T (h : OffX e T t news) (hm : (a, o) ∈ news) : a ≠ T := (h _ hm).2.1
theorem offx_t (h : OffX e T t news) (hm : (a, o) ∈ news) : a ≠ t := (h _ hm).2.2
theorem offx_nil : OffX e T t [] := fun _ hp => nomatch hp
theorem offx_cons (h : OffX e T t news) (hm : (a, o) ∈ news) {o' : Obj} (r : OffX e T t l₁) : OffX e T t ((a, o') :: l₁) := fun q hq => by
  rcases List.mem_cons.mp hq with rfl | hq
  · exact h (a, o) hm
  · exact r q hq
theorem offx_app (h : OffX e T t l₁) (r : OffX e T t l₂) : OffX e T t (l₁ ++ l₂) := fun q hq => by
  rcases List.mem_append.mp hq with hq | hq
  · exact h q hq
  · exact r q hq
theorem offx_sub (h : OffX e T t news) (s : ∀ p ∈ l₁, p ∈ news) : OffX e T t l₁ := fun q hq => h q (s q hq)
end
section
variable {M : Model} {A : Around} {E : Value → Shared → Prop} {s : Shared} {g : Heap} {L a e T t : Addr} {m : Str → Option Value} {name : Str} {scope : Scope} {cd cls : Value} {vs : List Value} {Q : Flow → Shared → Prop} {news : List (Addr × Obj)} {oe oT ot : Obj} {pos : Pos}
theorem raise_head (hh : A.handled = some (.ref e)) (F : Fr g L s.heap m) (N : News g L s.heap ((e, oe) :: (T, oT) :: (t, ot) :: news)) (C : Caught e T t cls vs oe oT ot) (off : OffX e T t news)
    (h : ∀ h', Fr g L h' m → BareAt g L e cls t vs news h' → E (.ref e) { s with heap := h' }) :
    wpAny M A (exec (.Raise none none pos) (envOf name scope L a cd)) Q E s :=
  raise_bare hh F N List.mem_cons_self (List.mem_cons_of_mem _ List.mem_cons_self) (List.mem_cons_of_mem _ (List.mem_cons_of_mem _ List.mem_cons_self)) (fun p hp => List.mem_cons_of_mem _ (List.mem_cons_of_mem _ (List.mem_cons_of_mem _ hp))) C off h
end
end Mine
namespace Mine
theorem turn_up {fs : List Addr} {g g' : Heap} (T : KtsTurn fs g g') : g.UpToSlots g' := fun _ _ e _ => T.up e
end Mine
end
section
namespace Mine
def TupO (o : Obj) : Prop := ∃ vs n, o = tupO vs n
theorem no_tupD {es : List DictEntry} {n : Nat} : ¬ TupO (dictOf es n) := by
  rintro ⟨vs, k, e⟩
  have := congrArg Obj.data e
  cases this
theorem no_tupI {C d : Addr} : ¬ TupO (instObj C d) := by
  rintro ⟨vs, k, e⟩
  have := congrArg Obj.data e
  cases this
theorem no_tupL {xs : Array Value} {n : Nat} : ¬ TupO (listOf xs n) := by
  rintro ⟨vs, k, e⟩
  have h1 : Value.type "list" = Value.type "tuple" := congrArg Obj.cls e
  have h2 : "list" = "tuple" := by injection h1
  exact absurd h2 (by decide)
section
variable {prog : Program} {w : World} {A : Around} {E : Value → Shared → Prop} {s : Shared} {h₀ : Heap} {L a : Addr} {news L9 : List (Addr × Obj)} {n : Nat} {u : Tok} {value slice : PySem.Expr} {v0 v1 : Value} {Q : Value → Shared → Prop}
theorem tup_at0 (N : News h₀ L s.heap news) (hm : (a, tupO [v0, v1] n) ∈ L9) (sub : ∀ p ∈ L9, TupO p.2 → p ∈ news) (h : Q v0 s) (hs : subscripted slice false (.ref a) (.int 0 u) = operate [.ref a, .int 0 u] (getItem (.ref a) (.int 0 u))) :
    wpAny (model prog w) A (subscriptTail value slice (.ref a) (.int 0 u)) Q E s := item_tupleT (News.isTup N (sub _ hm ⟨_, _, rfl⟩)) (by decide) (by decide) rfl rfl h hs
theorem tup_at1 (N : News h₀ L s.heap news) (hm : (a, tupO [v0, v1] n) ∈ L9) (sub : ∀ p ∈ L9, TupO p.2 → p ∈ news) (h : Q v1 s) (hs : subscripted slice false (.ref a) (.int 1 u) = operate [.ref a, .int 1 u] (getItem (.ref a) (.int 1 u))) :
    wpAny (model prog w) A (subscriptTail value slice (.ref a) (.int 1 u)) Q E s := item_tupleT (News.isTup N (sub _ hm ⟨_, _, rfl⟩)) (by decide) (by decide) rfl rfl h hs
end
end Mine
namespace Mine
theorem unr_one {h₀ : Heap} {L I : Addr} {it : Obj} {restP : (Str → Option Value) → List (Addr × Obj) → Prop} {s₁ : Shared} {h' : Heap} {tk : Nat} {m' : Str → Option Value} {g : Addr × Obj} {rest : List (Addr × Obj)} (F : Fr h₀ L h' m') (N : News h₀ L h' (g :: (I, it) :: rest)) (o1 : g.1 ≠ I) (o2 : ∀ p ∈ rest, p.1 ≠ I) (r : restP m' (g :: rest)) :
    UnrEnd h₀ L s₁ I it restP { s₁ with heap := h', toks := tk } := by
  refine UnrEnd.intro F N (g :: rest) (fun p hp => ?_) (fun p hp => ?_) r
  · simp only [List.mem_cons] at hp ⊢
    rcases hp with h | h | h <;> simp only [h, true_or, or_true]
  · rcases List.mem_cons.mp hp with rfl | hp
    · exact o1
    · exact o2 p hp
end Mine
end
section
namespace Mine
abbrev PsS := Addr × List Value × Nat × List Dat
def PSt (news : List (Addr × Obj)) (x : Str) (stored : List Str) (m₀ : Str → Option Value) (ns : List Int) (pre : List Int) : (Str → Option Value) → List (Addr × Obj) → Prop :=
  KdS (σ := PsS) (fun _ => []) news (fun c => [(Str.ofString "out", Value.ref c.1)]) (fun l c => (c.1, listOf c.2.1.toArray c.2.2.1) ∈ l ∧ DatAll l c.2.1 c.2.2.2) x stored m₀ (fun (pre : List Int) c => c.2.2.2 = (mall (dueP ns pre)).map tupD) (news.map (·.1)) pre
section
variable {prog : Program} {w : World} {A : Around} {E : Value → Shared → Prop} {s : Shared} {env : Env} {h₀ : Heap} {x : Str} {body : List Stmt} {Q : Flow → Shared → Prop} {news : List (Addr × Obj)} {m₀ : Str → Option Value}
theorem pairs_rule {r a0 : Addr} {b₀ : Int} {t₀ u₀ v₀ : Tok} {n n0 : Nat} (ns : List Int) (stored : List Str)
    (hh : A.handled = none) (hr : IsRange s.heap r 0 b₀ 1 t₀ u₀ v₀) (hsmall : Builtin.Range.small 0 b₀ 1 = true) (hsz : Builtin.Range.rangeSize 0 b₀ 1 = (n : Int)) (F : Fr h₀ env.locals s.heap m₀) (N : News h₀ env.locals s.heap news)
    (hout : m₀ (Str.ofString "out") = some (.ref a0)) (hm0 : (a0, listOf ([] : List Value).toArray n0) ∈ news)
    (turn : ∀ (a : Addr) (vs : List Value) (nn : Nat) (tl : List (Addr × Obj)) (pre : List Int) (k : Int) (t : Tok) (u : Str → Option Value) (h : Heap) (tk : Nat) (own : List (Addr × Obj)), k = 0 + (pre.length : Int) → pre.length < n → KdSep own tl (news.map (·.1)) → OwnOff (tl ++ own) (news.map (·.1)) →
      (a, listOf vs.toArray nn) ∈ news ++ tl → DatAll (news ++ tl) vs ((mall (dueP ns pre)).map tupD) →
      Fr h₀ env.locals h (fun y => if y = x then some (.int k t) else kstB (fun z => if stored.contains z then u z else m₀ z) [(Str.ofString "out", Value.ref a)] y) → News h₀ env.locals h ((a, listOf vs.toArray nn) :: (news ++ (tl ++ own))) →
      wpAny (model prog w) A (execs body env) (InvPostG h₀ env.locals (PSt news x stored m₀ ns (pre ++ [k])) own { s with heap := h, toks := tk } Q) E { s with heap := h, toks := tk })
    (done : ∀ (a : Addr) (vs : List Value) (nn : Nat) (tl : List (Addr × Obj)) (u : Str → Option Value) (h : Heap) (tk : Nat), OwnOff tl (news.map (·.1)) → DatAll (news ++ tl) vs ((mall (dueP ns (rangeKs 0 n))).map tupD) →
      Fr h₀ env.locals h (fun y => if y = x then u y else kstB (fun z => if stored.contains z then u z else m₀ z) [(Str.ofString "out", Value.ref a)] y) → News h₀ env.locals h ((a, listOf vs.toArray nn) :: (news ++ tl)) → Q .next { s with heap := h, toks := tk }) :
    wpAny (model prog w) A (pyIter (.ref r)) (fun it s₂ => LoopAtV prog w A h₀ env x body Q E it s₂) E s := by
  refine kd_range (σ := PsS) (fun _ => []) news (fun c => [(Str.ofString "out", Value.ref c.1)]) (fun l c => (c.1, listOf c.2.1.toArray c.2.2.1) ∈ l ∧ DatAll l c.2.1 c.2.2.2) stored (fun (pre : List Int) c => c.2.2.2 = (mall (dueP ns pre)).map tupD) (news.map (·.1)) (a0, [], n0, []) hh hr hsmall hsz F N ?_ (fun _ => rfl) ⟨?_, .nil⟩ ?_ rfl ?_ ?_
  · intro p hp
    simpa using hp
  · simpa using hm0
  · intro p hp
    rw [List.mem_singleton.mp hp]
    exact hout
  · rintro ⟨a, vs, nn, ds⟩ tl pre k t u h tk own e1 e2 e3 e4 ⟨f1, f2⟩ p F' N'
    have p' : ds = (mall (dueP ns pre)).map tupD := p
    subst p'
    refine turn a vs nn tl pre k t u h tk own e1 e2 e3 e4 f1 f2 F' fun q hq => ?_
    rcases List.mem_cons.mp hq with rfl | hq
    · refine N' _ ?_
      show _ ∈ news ++ (tl ++ own)
      rcases List.mem_append.mp f1 with h | h
      · exact List.mem_append.mpr (.inl h)
      · exact List.mem_append.mpr (.inr (List.mem_append.mpr (.inl h)))
    · exact N' _ hq
  · rintro ⟨a, vs, nn, ds⟩ tl u h tk e3 ⟨f1, f2⟩ p F' N'
    have p' : ds = (mall (dueP ns (rangeKs 0 n))).map tupD := p
    subst p'
    refine done a vs nn tl u h tk e3 f2 F' fun q hq => ?_
    rcases List.mem_cons.mp hq with rfl | hq
    · exact N' _ f1
    · exact N' _ hq
theorem pairs_end {tl own all : List (Addr × Obj)} {stored : List Str} {ns pre : List Int} {k : Int} {L a' : Addr} {vs' : List Value} {nn' : Nat} {m' : Str → Option Value} {s₁ : Shared} {h' : Heap} {tk : Nat} (add : List (Addr × Obj))
    (h0 : KdSep own tl (news.map (·.1))) (F : Fr h₀ L h' m') (N : News h₀ L h' all) (hn : ∀ p ∈ news ++ (add ++ tl), p ∈ all) (ho : ∀ p ∈ own, p ∈ all) (hb : ∀ q ∈ add, ∀ b ∈ news.map (·.1), b ≠ q.1) (hw : ∀ q ∈ add, ∀ p ∈ own, p.1 ≠ q.1)
    (hk : ∀ p ∈ [(Str.ofString "out", Value.ref a')], m' p.1 = some p.2) (hr : ∀ z, z ≠ x → (∀ p ∈ [(Str.ofString "out", Value.ref a')], z ≠ p.1) → stored.contains z = false → m' z = m₀ z)
    (hm : (a', listOf vs'.toArray nn') ∈ news ++ (add ++ tl)) (hd : DatAll (news ++ (add ++ tl)) vs' ((mall (dueP ns (pre ++ [k]))).map tupD)) :
    InvEndG h₀ L (PSt news x stored m₀ ns (pre ++ [k])) own s₁ { s₁ with heap := h', toks := tk } :=
  kd_end (σ := PsS) (a', vs', nn', (mall (dueP ns (pre ++ [k]))).map tupD) add h0 F N hn ho rfl hb hw hk hr ⟨hm, hd⟩ rfl
theorem dueP0 {ns pre : List Int} {k : Int} (h : (cI ns k).fmod 3 = 0) : dueP ns (pre ++ [k]) = dueP ns pre := by
  unfold dueP
  rw [List.filter_append, List.filter_cons_of_neg (by simp [h])]
  simp
theorem dueP1 {ns pre : List Int} {k : Int} (h : ¬ (cI ns k).fmod 3 = 0) : dueP ns (pre ++ [k]) = dueP ns pre ++ [kv (cI ns k) k] := by
  unfold dueP
  rw [List.filter_append, List.filter_cons_of_pos (by simp [h])]
  simp
theorem pairs_same {tl own all : List (Addr × Obj)} {stored : List Str} {ns pre : List Int} {k : Int} {L a' : Addr} {vs' : List Value} {nn' : Nat} {m' : Str → Option Value} {s₁ : Shared} {h' : Heap} {tk : Nat}
    (h0 : KdSep own tl (news.map (·.1))) (F : Fr h₀ L h' m') (N : News h₀ L h' all) (hn : ∀ p ∈ news ++ tl, p ∈ all) (ho : ∀ p ∈ own, p ∈ all)
    (hk : ∀ p ∈ [(Str.ofString "out", Value.ref a')], m' p.1 = some p.2) (hr : ∀ z, z ≠ x → (∀ p ∈ [(Str.ofString "out", Value.ref a')], z ≠ p.1) → stored.contains z = false → m' z = m₀ z)
    (hm : (a', listOf vs'.toArray nn') ∈ news ++ tl) (hd : DatAll (news ++ tl) vs' ((mall (dueP ns pre)).map tupD)) (hc : (cI ns k).fmod 3 = 0) :
    InvEndG h₀ L (PSt news x stored m₀ ns (pre ++ [k])) own s₁ { s₁ with heap := h', toks := tk } := by
  refine pairs_end [] h0 F N (by simpa using hn) ho (List.forall_mem_nil _) (List.forall_mem_nil _) hk hr hm ?_
  rw [dueP0 hc]
  exact hd
theorem pairs_put {tl own all : List (Addr × Obj)} {stored : List Str} {ns pre : List Int} {k key val : Int} {L a' : Addr} {vs' : List Value} {nn' : Nat} {m' : Str → Option Value} {s₁ : Shared} {h' : Heap} {tk : Nat} (add : List (Addr × Obj))
    (h0 : KdSep own tl (news.map (·.1))) (F : Fr h₀ L h' m') (N : News h₀ L h' all) (hn : ∀ p ∈ news ++ (add ++ tl), p ∈ all) (ho : ∀ p ∈ own, p ∈ all) (hb : ∀ q ∈ add, ∀ b ∈ news.map (·.1), b ≠ q.1) (hw : ∀ q ∈ add, ∀ p ∈ own, p.1 ≠ q.1)
    (hk : ∀ p ∈ [(Str.ofString "out", Value.ref a')], m' p.1 = some p.2) (hr : ∀ z, z ≠ x → (∀ p ∈ [(Str.ofString "out", Value.ref a')], z ≠ p.1) → stored.contains z = false → m' z = m₀ z)
    (hm : (a', listOf vs'.toArray nn') ∈ news ++ (add ++ tl)) (hd : DatAll (news ++ (add ++ tl)) vs' ((mput (mall (dueP ns pre)) key val).map tupD)) (hc : ¬ (cI ns k).fmod 3 = 0) (e1 : key = (kv (cI ns k) k).1) (e2 : val = (kv (cI ns k) k).2) :
    InvEndG h₀ L (PSt news x stored m₀ ns (pre ++ [k])) own s₁ { s₁ with heap := h', toks := tk } := by
  refine pairs_end add h0 F N hn ho hb hw hk hr hm ?_
  subst e1; subst e2
  rw [dueP1 hc, mall_snoc]
  exact hd
end
def MpI (k v : Int) (pre out : List Dat) (placed : Bool) : Prop :=
  ∃ ps : List (Int × Int), pre = ps.map tupD ∧ out = ((ps.foldl (mstep k v) ([], false)).1).map tupD ∧ placed = (ps.foldl (mstep k v) ([], false)).2
section
variable {k v : Int} {pre out : List Dat} {placed : Bool} {q : Int × Int}
theorem mp_start : MpI k v [] [] false := ⟨[], rfl, rfl, rfl⟩
theorem mp_skip (h : MpI k v pre out placed) (e : q.1 = k) : MpI k v (pre ++ [tupD q]) out placed := by
  obtain ⟨ps, rfl, rfl, rfl⟩ := h
  refine ⟨ps ++ [q], by simp, ?_, ?_⟩ <;> rw [List.foldl_append] <;> simp [mstep, e]
theorem mp_put (h : MpI k v pre out placed) (e : ¬ q.1 = k) (hp : placed = false) (hg : k < q.1) : MpI k v (pre ++ [tupD q]) (out ++ [tupD (k, v)] ++ [tupD q]) true := by
  obtain ⟨ps, rfl, rfl, rfl⟩ := h
  refine ⟨ps ++ [q], by simp, ?_, ?_⟩ <;> rw [List.foldl_append] <;> simp [mstep, e, hp, hg]
theorem mp_add1 (h : MpI k v pre out placed) (e : ¬ q.1 = k) (hp : placed = true) : MpI k v (pre ++ [tupD q]) (out ++ [tupD q]) placed := by
  obtain ⟨ps, rfl, rfl, rfl⟩ := h
  refine ⟨ps ++ [q], by simp, ?_, ?_⟩ <;> rw [List.foldl_append] <;> simp [mstep, e, hp]
theorem mp_add2 (h : MpI k v pre out placed) (e : ¬ q.1 = k) (hg : ¬ k < q.1) : MpI k v (pre ++ [tupD q]) (out ++ [tupD q]) placed := by
  obtain ⟨ps, rfl, rfl, rfl⟩ := h
  refine ⟨ps ++ [q], by simp, ?_, ?_⟩ <;> rw [List.foldl_append] <;> simp [mstep, e, hg]
theorem tupD_inj {p q : Int × Int} (h : tupD p = tupD q) : p = q := by
  obtain ⟨a, b⟩ := p
  obtain ⟨c, d⟩ := q
  simp only [tupD, Dat.tuple.injEq, List.cons.injEq, Dat.int.injEq, and_true] at h
  rw [h.1, h.2]
theorem map_tupD_inj {l l' : List (Int × Int)} (h : l.map tupD = l'.map tupD) : l = l' := (List.map_inj_right fun _ _ e => tupD_inj e).mp h
theorem mp_end {D : List (Int × Int)} (h : MpI k v (D.map tupD) out placed) : (placed = true → out = (mput D k v).map tupD) ∧ (placed = false → out ++ [tupD (k, v)] = (mput D k v).map tupD) := by
  obtain ⟨ps, e, rfl, rfl⟩ := h
  obtain rfl := map_tupD_inj e
  refine ⟨fun hp => ?_, fun hp => ?_⟩ <;> simp [mput, hp]
theorem mid_tup {D : List (Int × Int)} {post : List Dat} {d : Dat} (h : D.map tupD = pre ++ d :: post) : ∃ q, d = tupD q := by
  have : d ∈ D.map tupD := by rw [h]; simp
  obtain ⟨q, _, e⟩ := List.mem_map.mp this
  exact ⟨q, e.symm⟩
end
theorem call_gen {M : Model} {A : Around} {E : Value → Shared → Prop} {s : Shared} {Q : Value → Shared → Prop} {f a : Value} {K V : Int} {t u : Tok} (h : ∀ k v : Int, k = K → v = V → wpAny M A (PySem.call f [a, .int k t, .int v u]) Q E s) : wpAny M A (PySem.call f [a, .int K t, .int V u]) Q E s := h K V rfl rfl
end Mine
end
section
namespace Mine
end Mine
end
section
namespace Mine
def MidE (h₀ : Heap) (L : Addr) (m : Str → Option Value) (Led : Addr → Nat → List (Addr × Obj)) (adr : List Addr) (RT : List (Addr × Obj)) (s s' : Shared) : Prop :=
  ∃ (ls : Addr) (n : Nat) (h : Heap) (tk : Nat) (u : Str → Option Value), s' = { s with heap := h, toks := tk } ∧
    Fr h₀ L h (fun y => if y = Str.ofString "k" then u y else kstB (fun z => if [Str.ofString "fresh"].contains z then u z else m z) [] y) ∧
    News h₀ L h (Led ls n ++ RT) ∧ (∀ a ∈ adr, a ≠ ls) ∧ (∀ q ∈ RT, q.1 ≠ ls)
section
variable {prog : Program} {w : World} {A : Around} {E : Value → Shared → Prop} {s : Shared} {env : Env} {Q : Flow → Shared → Prop} {h₀ : Heap} {L : Addr} {m m' : Str → Option Value} {all R T : List (Addr × Obj)} {x d ab x1 d1 bf ls ls0 C C1 : Addr} {e1 e2 e3 e5 : DictEntry} {h4 h6 : Int} {k4 k6 : Value} {f2 f3 : DictEntry} {n2 : Nat} {dsb : List Dat} {oab od1 : Obj} {n n1 : Nat} {yb : List Value}
theorem MidE.mk {Led : Addr → Nat → List (Addr × Obj)} {adr : List Addr} {RT : List (Addr × Obj)} {h' : Heap} {tk : Nat} (F : Fr h₀ L h' m') (N : News h₀ L h' all)
    (hr : ∀ z, z ≠ Str.ofString "k" → (∀ p ∈ ([] : List (Str × Value)), z ≠ p.1) → [Str.ofString "fresh"].contains z = false → m' z = m z) (ml : ∀ p ∈ Led ls n, p ∈ all) (mR : ∀ p ∈ RT, p ∈ all) (o1 : ∀ a ∈ adr, a ≠ ls) (o2 : ∀ q ∈ RT, q.1 ≠ ls) : MidE h₀ L m Led adr RT s { s with heap := h', toks := tk } :=
  ⟨ls, n, h', tk, m', rfl, kst_frOut (List.forall_mem_nil _) hr F, fun p hp => by
    rcases List.mem_append.mp hp with hp | hp
    · exact N _ (ml p hp)
    · exact N _ (mR p hp), o1, o2⟩
theorem cutE (F : Fr h₀ L s.heap m) (N : News h₀ L s.heap all) (hb : m (Str.ofString "before") = some (.ref bf)) (_mb : (bf, LCg.lst yb) ∈ all) (_mx : (x, instObj C d) ∈ all) (_md : (d, dictOf [e1, e2, e3, ⟨h4, k4, .ref ls0⟩, e5] n1) ∈ all) (hx1 : e1.val = .ref x1) (_mx1 : (x1, instObj C1 d1) ∈ all) (_md1 : (d1, od1) ∈ all) (hab : m (Str.ofString "store") = some (.ref x)) (_hd1 : od1 = dictOf [⟨h6, k6, .ref ab⟩, f2, f3] n2) (_mab : (ab, oab) ∈ all) (_hT : DatAll T yb dsb) (R : List (Addr × Obj)) (a b : List Stmt)
    (h1 : wpAny (model prog w) A (execs a env) (fun f s' => match f with | .next => MidE h₀ L m (fun ls n => (ls, listOf ([] : List Value).toArray n) :: (bf, LCg.lst yb) :: (x, instObj C d) :: (d, dictOf [e1, e2, e3, ⟨h4, k4, .ref ls⟩, e5] n1) :: (ab, oab) :: (x1, instObj C1 d1) :: (d1, od1) :: []) [bf, x, d, ab, x1, d1] (R ++ T) s s' | f => Q f s') E s)
    (h2 : ∀ (ls : Addr) (n : Nat) (h : Heap) (tk : Nat) (u : Str → Option Value),
      Fr h₀ L h (fun y => if y = Str.ofString "k" then u y else kstB (fun z => if [Str.ofString "fresh"].contains z then u z else m z) [] y) →
      News h₀ L h ((ls, listOf ([] : List Value).toArray n) :: (bf, LCg.lst yb) :: (x, instObj C d) :: (d, dictOf [e1, e2, e3, ⟨h4, k4, .ref ls⟩, e5] n1) :: (ab, oab) :: (x1, instObj C1 d1) :: (d1, od1) :: (R ++ T)) →
      (bf ≠ ls ∧ x ≠ ls ∧ d ≠ ls ∧ ab ≠ ls ∧ x1 ≠ ls ∧ d1 ≠ ls) → (∀ q ∈ R ++ T, q.1 ≠ ls) →
      wpAny (model prog w) A (execs b env) Q E { s with heap := h, toks := tk }) : wpAny (model prog w) A (execs (a ++ b) env) Q E s :=
  cut_at _ a b h1 (by
    rintro s' ⟨ls, n, h, tk, u, rfl, F', N', o1, o2⟩
    simp only [List.forall_mem_cons] at o1
    exact h2 ls n h tk u F' N' ⟨o1.1, o1.2.1, o1.2.2.1, o1.2.2.2.1, o1.2.2.2.2.1, o1.2.2.2.2.2.1⟩ o2)
end
theorem own_ne {T : List (Addr × Obj)} {adr : List Addr} {a : Addr} (h : OwnOff T adr) (ha : a ∈ adr) : ∀ q ∈ T, q.1 ≠ a := fun q hq => h q hq a ha
end Mine
end
section
namespace Mine
theorem row_is {rG rS k B bud wr : Int} {r : Dat} {r' : List Int} {ns : List Int} {ds : List Dat} {lost : Bool} (h : Aft B lost (List.replicate (1 + (1 + rG)).toNat r ++ tabD ns (rangeKs 0 (1 + rS - 0).toNat)) ds bud wr (1 + (1 + rG)).toNat) (g : 0 ≤ rG) (k0 : 0 ≤ k) (k1 : k < 1 + rS) (hk : ds[(1 + (1 + rG) + k).toNat]? = some (rowD r')) : Hid (r' = Bi (cI ns k) k) := by
  have e := h.2.2.1
  have e1 : (1 + (1 + rG) + k).toNat = (1 + (1 + rG)).toNat + k.toNat := by omega
  rw [e1, ← List.getElem?_drop, e, List.drop_append_of_le_length (by rw [List.length_replicate]; exact Nat.le_refl _)] at hk
  have e2 : (List.replicate (1 + (1 + rG)).toNat r).drop (1 + (1 + rG)).toNat = [] := by simp
  rw [e2, List.nil_append] at hk
  unfold tabD at hk
  rw [List.getElem?_map] at hk
  have e3 : (rangeKs 0 (1 + rS - 0).toNat)[k.toNat]? = some k := by
    have : (0 : Int) + (k.toNat : Int) = k := by omega
    have lt : k.toNat < (1 + rS - 0).toNat := by omega
    simp only [rangeKs]
    rw [List.getElem?_map, List.getElem?_range lt]
    simp
    omega
  rw [e3] at hk
  have := Option.some.inj hk
  exact (rowD_inj this).symm
theorem set_rows {ds : List Dat} {r : List Int} {j : Nat} (h : ∀ d ∈ ds, IsRow d) (hr : r.length = 16) : ∀ d ∈ ds.set j (rowD r), IsRow d := fun d hd => by
  rcases List.mem_or_eq_of_mem_set hd with hd | rfl
  · exact h d hd
  · exact ⟨r, rfl, hr⟩
section
variable {bl : List Int} {c i x : Int} {pre : List Int}
theorem C_g1 (e : Hid (bl = Bi c i)) (h : c.fmod 3 = 0) : bl.getD (Int.toNat 0) 0 ≠ 1 := by rw [C_f0 e h]; decide
theorem C_g0 (e : Hid (bl = Bi c i)) (h : ¬ c.fmod 3 = 0) : bl.getD (Int.toNat 0) 0 ≠ 0 := by rw [C_f1 e h]; decide
theorem St0 : ∀ v ∈ ([] : List Int), v = 0 := List.forall_mem_nil _
theorem St1 (h : ∀ v ∈ pre, v = 0) (hx : x = 0) : ∀ v ∈ pre ++ [x], v = 0 := fun v hv => by
  rcases List.mem_append.mp hv with hv | hv
  · exact h v hv
  · rw [List.mem_singleton.mp hv]; exact hx
end
end Mine
end
section
namespace Mine
theorem due_ne {ns : List Int} {n : Nat} (hn : n ≤ 1000) : (dueP ns (rangeKs 0 n)).Pairwise (fun p q => p.1 ≠ q.1) := by
  unfold dueP
  rw [List.pairwise_map]
  refine List.Pairwise.filter _ ?_
  unfold rangeKs
  rw [List.pairwise_map]
  refine List.Pairwise.imp_of_mem ?_ List.pairwise_lt_range
  intro a b ha hb hab
  have h1 := List.mem_range.mp ha
  have h2 := List.mem_range.mp hb
  simp only [kv]
  omega
theorem tup_ok {l : List (Int × Int)} : ∀ d ∈ l.map tupD, kqdOk 8 d = true := by
  intro d hd
  obtain ⟨p, _, rfl⟩ := List.mem_map.mp hd
  rfl
theorem dueP_len {ns : List Int} {n : Nat} (h : n ≤ 3) : (dueP ns (rangeKs 0 n)).length ≤ 3 := by
  unfold dueP
  rw [List.length_map]
  exact Nat.le_trans (List.length_filter_le _ _) (by rw [rangeKs_length]; exact h)
end Mine
end
section
namespace Mine
theorem iter_empty {prog : Program} {w : World} {A : Around} {E : Value → Shared → Prop} {s : Shared} {env : Env} {h₀ : Heap} {x : Str} {body : List Stmt} {Q : Flow → Shared → Prop} {news : List (Addr × Obj)} {m₀ : Str → Option Value} {l : Addr} {nn : Nat}
    (hh : A.handled = none) (hl : (l, listOf ([] : List Value).toArray nn) ∈ news) (F : Fr h₀ env.locals s.heap m₀) (N : News h₀ env.locals s.heap news)
    (done : ∀ (u : Str → Option Value) (h : Heap) (tk : Nat), Fr h₀ env.locals h (fun y => if y = x then u y else m₀ y) → News h₀ env.locals h news → Q .next { s with heap := h, toks := tk }) :
    wpAny (model prog w) A (pyIter (.ref l)) (fun it s₂ => LoopAtV prog w A h₀ env x body Q E it s₂) E s := by
  refine kd_listL (σ := Unit) (vs := []) (ds := []) (fun _ => []) news (fun _ => []) (fun _ _ => True) [] (fun _ _ => True) (news.map (·.1)) () hh hl .nil F N (fun p hp => by simpa using hp) (fun _ => rfl) trivial (List.forall_mem_nil _) trivial ?_ ?_
  · intro c tl pre d post v u h tk own e
    exact absurd e (by simp)
  · intro c tl u h tk _ _ _ F' N'
    refine done u h tk ?_ (fun p hp => N' p (List.mem_append.mpr (.inr (List.mem_append.mpr (.inl hp)))))
    simpa [kstB] using F'
end Mine
namespace Mine
section
variable {prog : Program} {w : World} {A : Around} {E : Value → Shared → Prop} {s : Shared} {a b : Int} {t u : Tok} {Q : Value → Shared → Prop}
theorem ne_yes (h : a ≠ b) (hq : Q (.bool true) s) : wpAny (model prog w) A (compareOp .NotEq (.int a t) (.int b u)) Q E s := ne_int (by rw [bne_iff_ne.mpr h]; exact hq)
theorem lt_no (h : ¬ a < b) (hq : Q (.bool false) s) : wpAny (model prog w) A (compareOp .Lt (.int a t) (.int b u)) Q E s := lt_int (by rw [decide_eq_false h]; exact hq)
end
end Mine
end
section
namespace Mine
section
variable {prog : Program} {w : World} {A : Around} {E : Value → Shared → Prop} {s : Shared} {env : Env} {Q : Flow → Shared → Prop} {h₀ : Heap} {L : Addr} {m : Str → Option Value} {news : List (Addr × Obj)} {x d ab x1 d1 ld ls C C1 : Addr} {e1 e2 e3 e5 f2 f3 : DictEntry} {h4 h6 : Int} {k4 k6 : Value} {oS oab od1 oD : Obj} {n1 n2 : Nat}
theorem cut_read (F : Fr h₀ L s.heap m) (N : News h₀ L s.heap news) (_hx : m (Str.ofString "store") = some (.ref x)) (mx : (x, instObj C d) ∈ news) (md : (d, dictOf [e1, e2, e3, ⟨h4, k4, .ref ls⟩, e5] n1) ∈ news) (ms : (ls, oS) ∈ news) (_hx1 : e1.val = .ref x1) (mx1 : (x1, instObj C1 d1) ∈ news) (md1 : (d1, od1) ∈ news) (_hd1 : od1 = dictOf [⟨h6, k6, .ref ab⟩, f2, f3] n2) (mab : (ab, oab) ∈ news) (_hld : m (Str.ofString "due") = some (.ref ld)) (mld : (ld, oD) ∈ news) (R8 : List (Addr × Obj)) (sR : ∀ p ∈ R8, p ∈ news) (a b : List Stmt)
    (h1 : ∀ R : List (Addr × Obj), Fr h₀ L s.heap m → News h₀ L s.heap ((ls, oS) :: (x, instObj C d) :: (d, dictOf [e1, e2, e3, ⟨h4, k4, .ref ls⟩, e5] n1) :: (ab, oab) :: (x1, instObj C1 d1) :: (d1, od1) :: (ld, oD) :: (R8 ++ R)) → wpAny (model prog w) A (execs a env) (fun f s' => match f with | .next => Same h₀ L m R s s' | f => Q f s') E s)
    (h2 : ∀ (h : Heap) (tk : Nat), Fr h₀ L h m → News h₀ L h news → wpAny (model prog w) A (execs b env) Q E { s with heap := h, toks := tk }) : wpAny (model prog w) A (execs (a ++ b) env) Q E s := by
  refine cut_at (Same h₀ L m news s) a b (h1 news F fun p hp => N p ?_) (by
    rintro s' ⟨h, tk, rfl, F', N'⟩
    exact h2 h tk F' N')
  simp only [List.mem_cons, List.mem_append] at hp
  rcases hp with rfl | rfl | rfl | rfl | rfl | rfl | rfl | h | h
  · exact ms
  · exact mx
  · exact md
  · exact mab
  · exact mx1
  · exact md1
  · exact mld
  · exact sR p h
  · exact h
end
end Mine
end
section
namespace Mine
theorem mstep_len (k v : Int) : ∀ (ps : List (Int × Int)) (s : List (Int × Int) × Bool), (ps.foldl (mstep k v) s).1.length ≤ s.1.length + 2 * ps.length
  | [], s => by simp
  | p :: ps, s => by
    refine Nat.le_trans (mstep_len k v ps (mstep k v s p)) ?_
    have h : (mstep k v s p).1.length ≤ s.1.length + 2 := by
      unfold mstep
      split
      · omega
      · split <;> simp <;> omega
    rw [List.length_cons]
    omega
theorem mp_len {k v : Int} {pre out : List Dat} {pl : Bool} (h : MpI k v pre out pl) : out.length ≤ 2 * pre.length := by
  obtain ⟨ps, rfl, rfl, _⟩ := h
  rw [List.length_map, List.length_map]
  have := mstep_len k v ps ([], false)
  simpa using this
theorem mstep_len1 (k v : Int) : ∀ (ps : List (Int × Int)) (s : List (Int × Int) × Bool), (ps.foldl (mstep k v) s).1.length + (if (ps.foldl (mstep k v) s).2 then 0 else 1) ≤ s.1.length + (if s.2 then 0 else 1) + ps.length
  | [], s => Nat.le_refl _
  | p :: ps, s => by
    refine Nat.le_trans (mstep_len1 k v ps (mstep k v s p)) ?_
    have h : (mstep k v s p).1.length + (if (mstep k v s p).2 then 0 else 1) ≤ s.1.length + (if s.2 then 0 else 1) + 1 := by
      obtain ⟨o, b⟩ := s
      unfold mstep
      split
      · omega
      · split
        · rename_i h1
          have h2 : b = false := h1.1
          subst h2
          simp
        · simp
          omega
    rw [List.length_cons]
    omega
theorem mput_len {ps : List (Int × Int)} {k v : Int} : (mput ps k v).length ≤ ps.length + 1 := by
  have h := mstep_len1 k v ps ([], false)
  simp only [mput]
  split
  · rename_i g
    rw [g] at h
    simp at h
    omega
  · rename_i g
    rw [Bool.not_eq_true] at g
    rw [g] at h
    simp at h ⊢
    omega
theorem mall_len (D : List (Int × Int)) : ∀ o : List (Int × Int), (D.foldl (fun o p => mput o p.1 p.2) o).length ≤ o.length + D.length := by
  induction D with
  | nil => intro o; simp
  | cons p D ih =>
    intro o
    refine Nat.le_trans (ih (mput o p.1 p.2)) ?_
    have := mput_len (ps := o) (k := p.1) (v := p.2)
    rw [List.length_cons]
    omega
theorem mall_due {ns pre : List Int} (h : pre.length ≤ 3) : (mall (dueP ns pre)).length ≤ 3 := by
  refine Nat.le_trans (mall_len _ []) ?_
  have : (dueP ns pre).length ≤ pre.length := by
    unfold dueP
    rw [List.length_map]
    exact List.length_filter_le _ _
  simp only [List.length_nil]
  omega
section
variable {bl : List Int} {c i k8 : Int}
theorem key4 (e : Hid (bl = Bi c i)) (h : ¬ c.fmod 3 = 0) (hk : k8 = (((List.take (min 5 bl.length - 1) (List.drop 1 bl)).getD (Int.toNat 0) 0 * 256 + (List.take (min 5 bl.length - 1) (List.drop 1 bl)).getD (Int.toNat 1) 0) * 256 + (List.take (min 5 bl.length - 1) (List.drop 1 bl)).getD (Int.toNat 2) 0) * 256 + (List.take (min 5 bl.length - 1) (List.drop 1 bl)).getD (Int.toNat 3) 0) : k8 = (kv c i).1 := by
  rw [C_key e h] at hk
  have e1 : k8 = ((c.fmod 256 * 256 + 0) * 256 + 0) * 256 + i := hk
  show k8 = c.fmod 256 * 16777216 + i
  omega
theorem val4 (e : Hid (bl = Bi c i)) (h : ¬ c.fmod 3 = 0) (hk : k8 = (((List.take (min 9 bl.length - 5) (List.drop 5 bl)).getD (Int.toNat 0) 0 * 256 + (List.take (min 9 bl.length - 5) (List.drop 5 bl)).getD (Int.toNat 1) 0) * 256 + (List.take (min 9 bl.length - 5) (List.drop 5 bl)).getD (Int.toNat 2) 0) * 256 + (List.take (min 9 bl.length - 5) (List.drop 5 bl)).getD (Int.toNat 3) 0) : k8 = (kv c i).2 := by
  rw [C_val e h] at hk
  have e1 : k8 = ((0 * 256 + 0) * 256 + (c.fdiv 256).fmod 256) * 256 + i := hk
  show k8 = (c.fdiv 256).fmod 256 * 256 + i
  omega
end
theorem sub_sep {news tl own R : List (Addr × Obj)} {vs : List Value} {ds : List Dat} {adr : List Addr} (_ : DatAll (news ++ tl) vs ds) (_ : KdSep own tl adr) (h : ∀ p ∈ news ++ (tl ++ own), p ∈ R) : ∀ p ∈ news ++ (tl ++ own), p ∈ R := h
abbrev MpS := List Value × Nat × List Dat × Bool
def MSt (o : Addr) (R B : List (Addr × Obj)) (x : Str) (m₀ : Str → Option Value) (k v : Int) (pre : List Dat) : (Str → Option Value) → List (Addr × Obj) → Prop :=
  KdS (σ := MpS) (fun c => (o, listOf c.1.toArray c.2.1) :: R) B (fun c => [(Str.ofString "out", Value.ref o), (Str.ofString "placed", Value.bool c.2.2.2)]) (fun l c => DatAll l c.1 c.2.2.1) x [] m₀ (fun (pre : List Dat) c => MpI k v pre c.2.2.1 c.2.2.2) (o :: (R ++ B).map (·.1)) pre
section
variable {prog : Program} {w : World} {A : Around} {E : Value → Shared → Prop} {s : Shared} {env : Env} {h₀ : Heap} {x : Str} {body : List Stmt} {Q : Flow → Shared → Prop} {m₀ : Str → Option Value}
theorem mp_rule {l o : Addr} {vs0 : List Value} {nn0 n0 : Nat} {D : List (Int × Int)} {B R : List (Addr × Obj)} {k v : Int}
    (hh : A.handled = none) (hl : (l, listOf vs0.toArray nn0) ∈ B) (hd : DatAll B vs0 (D.map tupD)) (F : Fr h₀ env.locals s.heap m₀) (N : News h₀ env.locals s.heap ((o, listOf ([] : List Value).toArray n0) :: R)) (K : List (Addr × Obj)) (sK : ∀ p ∈ K, p ∈ R) (oR : ∀ p ∈ R, p.1 ≠ o) (sB : ∀ p ∈ B, p ∈ R) (hD : D.length ≤ 3)
    (hout : m₀ (Str.ofString "out") = some (.ref o)) (hpl : m₀ (Str.ofString "placed") = some (.bool false))
    (turn : ∀ (R B : List (Addr × Obj)) (vs : List Value) (nn : Nat) (ds : List Dat) (pl : Bool) (tl : List (Addr × Obj)) (pre : List Dat) (q : Int × Int) (a : Addr) (t1 t2 : Tok) (n : Nat) (u : Str → Option Value) (h : Heap) (tk : Nat) (own : List (Addr × Obj)), (∀ p ∈ B, p ∈ R) → (∀ p ∈ R, p.1 ≠ o) → a ≠ o → KdSep own tl (o :: (R ++ B).map (·.1)) → OwnOff (tl ++ own) (o :: (R ++ B).map (·.1)) → (a, tupO [.int q.1 t1, .int q.2 t2] n) ∈ B ++ tl → DatAll (B ++ tl) vs ds → MpI k v pre ds pl → vs.length ≤ 6 →
      Fr h₀ env.locals h (fun y => if y = x then some (.ref a) else kstB (fun z => if ([] : List Str).contains z then u z else m₀ z) [(Str.ofString "out", Value.ref o), (Str.ofString "placed", Value.bool pl)] y) → News h₀ env.locals h ((o, listOf vs.toArray nn) :: (a, tupO [.int q.1 t1, .int q.2 t2] n) :: (R ++ (tl ++ own))) →
      wpAny (model prog w) A (execs body env) (InvPostG h₀ env.locals (MSt o R B x m₀ k v (pre ++ [tupD q])) own { s with heap := h, toks := tk } Q) E { s with heap := h, toks := tk })
    (done : ∀ (R : List (Addr × Obj)) (vs : List Value) (nn : Nat) (ds : List Dat) (pl : Bool) (tl : List (Addr × Obj)) (u : Str → Option Value) (h : Heap) (tk : Nat), (∀ p ∈ K, p ∈ R) → OwnOff tl (o :: R.map (·.1)) → (∀ p ∈ R, p.1 ≠ o) → DatAll (B ++ tl) vs ds → (pl = true → ds = (mput D k v).map tupD) → (pl = false → ds ++ [tupD (k, v)] = (mput D k v).map tupD) → vs.length ≤ 6 →
      Fr h₀ env.locals h (fun y => if y = x then u y else kstB (fun z => if ([] : List Str).contains z then u z else m₀ z) [(Str.ofString "out", Value.ref o), (Str.ofString "placed", Value.bool pl)] y) → News h₀ env.locals h ((o, listOf vs.toArray nn) :: (R ++ tl)) → Q .next { s with heap := h, toks := tk }) :
    wpAny (model prog w) A (pyIter (.ref l)) (fun it s₂ => LoopAtV prog w A h₀ env x body Q E it s₂) E s := by
  have aB : ∀ {tl : List (Addr × Obj)}, OwnOff tl (o :: (R ++ B).map (·.1)) → OwnOff tl (o :: R.map (·.1)) := by
    intro tl h p hp b hb
    refine h p hp b ?_
    rw [List.map_append]
    rcases List.mem_cons.mp hb with rfl | hb
    · exact List.mem_cons_self
    · exact List.mem_cons_of_mem _ (List.mem_append.mpr (.inl hb))
  refine kd_listL (σ := MpS) (vs := vs0) (ds := D.map tupD) (nn := nn0) (fun c => (o, listOf c.1.toArray c.2.1) :: R) B (fun c => [(Str.ofString "out", Value.ref o), (Str.ofString "placed", Value.bool c.2.2.2)]) (fun l c => DatAll l c.1 c.2.2.1) [] (fun (pre : List Dat) c => MpI k v pre c.2.2.1 c.2.2.2) (o :: (R ++ B).map (·.1)) ([], n0, [], false) hh hl (by simpa using hd) F N ?_ (fun _ => rfl) .nil ?_ mp_start ?_ ?_
  · intro p hp
    simp only [List.append_nil, List.cons_append, List.mem_cons, List.mem_append] at hp ⊢
    rcases hp with h | h | h
    · exact .inl h
    · exact .inr h
    · exact .inr (sB p h)
  · intro p hp
    simp only [List.mem_cons, List.not_mem_nil, or_false] at hp
    rcases hp with rfl | rfl
    · exact hout
    · exact hpl
  · rintro ⟨vs, nn, ds, pl⟩ tl pre d post vv u h tk own e _ hv ks off f p F' N'
    have f' : DatAll (B ++ tl) vs ds := f
    have p' : MpI k v pre ds pl := p
    obtain ⟨q, rfl⟩ := mid_tup e
    cases hv with
    | tuple hm hr =>
      rename_i a ws n
      cases hr with
      | cons h1 hr =>
        cases hr with
        | cons h2 hr =>
          cases hr
          cases h1
          cases h2
          rename_i t1 t2
          have hlen : vs.length ≤ 6 := by
            have e1 := mp_len p'
            have e2 := f'.length
            have e3 : (D.map tupD).length = _ := congrArg List.length e
            rw [List.length_map, List.length_append, List.length_cons] at e3
            omega
          have hao : a ≠ o := by
            rcases List.mem_append.mp hm with g | g
            · exact oR _ (sB _ g)
            · exact off _ (List.mem_append.mpr (.inl g)) o List.mem_cons_self
          refine turn R B vs nn ds pl tl pre q a t1 t2 n u h tk own sB oR hao ks off hm f' p' hlen F' fun z hz => N' z ?_
          show z ∈ (o, listOf vs.toArray nn) :: R ++ (B ++ (tl ++ own))
          simp only [List.cons_append, List.mem_cons, List.mem_append] at hz ⊢
          rcases hz with rfl | rfl | h | h | h
          · exact .inl rfl
          · rcases List.mem_append.mp hm with g | g
            · exact .inr (.inr (.inl g))
            · exact .inr (.inr (.inr (.inl g)))
          · exact .inr (.inl h)
          · exact .inr (.inr (.inr (.inl h)))
          · exact .inr (.inr (.inr (.inr h)))
  · rintro ⟨vs, nn, ds, pl⟩ tl u h tk off f p F' N'
    have f' : DatAll (B ++ tl) vs ds := f
    have p' : MpI k v (D.map tupD) ds pl := p
    obtain ⟨g1, g2⟩ := mp_end p'
    refine done R vs nn ds pl tl u h tk sK (aB off) oR f' g1 g2 ?_ F' fun z hz => N' z ?_
    · have e1 := mp_len p'
      have e2 := f'.length
      rw [List.length_map] at e1
      omega
    · show z ∈ (o, listOf vs.toArray nn) :: R ++ (B ++ tl)
      simp only [List.cons_append, List.mem_cons, List.mem_append] at hz ⊢
      rcases hz with rfl | h | h
      · exact .inl rfl
      · exact .inr (.inl h)
      · exact .inr (.inr (.inr h))
section
variable {o a t : Addr} {R B tl own all : List (Addr × Obj)} {k v : Int} {pre ds : List Dat} {pl : Bool} {vs : List Value} {nn n8 n9 : Nat} {q : Int × Int} {t1 t2 t3 t4 : Tok} {L : Addr} {m' : Str → Option Value} {s₁ : Shared} {h' : Heap} {tk : Nat}
theorem mp_fin {vs' : List Value} {nn' : Nat} {ds' : List Dat} {pl' : Bool} (add : List (Addr × Obj)) (sB : ∀ p ∈ B, p ∈ R) (h0 : KdSep own tl (o :: (R ++ B).map (·.1))) (F : Fr h₀ L h' m') (N : News h₀ L h' all) (hn : ∀ p ∈ (o, listOf vs'.toArray nn') :: (R ++ (add ++ (tl ++ own))), p ∈ all)
    (hb : ∀ q ∈ add, o ≠ q.1) (hb' : ∀ q ∈ add, ∀ p ∈ R, p.1 ≠ q.1) (hw : ∀ q ∈ add, ∀ p ∈ own, p.1 ≠ q.1)
    (hk : ∀ p ∈ [(Str.ofString "out", Value.ref o), (Str.ofString "placed", Value.bool pl')], m' p.1 = some p.2) (hr : ∀ z, z ≠ x → (∀ p ∈ [(Str.ofString "out", Value.ref o), (Str.ofString "placed", Value.bool pl')], z ≠ p.1) → ([] : List Str).contains z = false → m' z = m₀ z)
    (hf : DatAll (B ++ (add ++ tl)) vs' ds') (hp : MpI k v (pre ++ [tupD q]) ds' pl') :
    InvEndG h₀ L (MSt o R B x m₀ k v (pre ++ [tupD q])) own s₁ { s₁ with heap := h', toks := tk } := by
  refine kd_end (σ := MpS) (vs', nn', ds', pl') add h0 F N ?_ ?_ rfl ?_ hw hk hr hf hp
  · intro p hp
    have hp' : p ∈ (o, listOf vs'.toArray nn') :: R ++ (B ++ (add ++ tl)) := hp
    refine hn p ?_
    simp only [List.cons_append, List.mem_cons, List.mem_append] at hp' ⊢
    rcases hp' with h | h | h | h | h
    · exact .inl h
    · exact .inr (.inl h)
    · exact .inr (.inl (sB p h))
    · exact .inr (.inr (.inl h))
    · exact .inr (.inr (.inr (.inl h)))
  · intro p hp
    exact hn p (by simp only [List.mem_cons, List.mem_append]; exact .inr (.inr (.inr (.inr hp))))
  · intro g hg b hbm
    rcases List.mem_cons.mp hbm with rfl | hbm
    · exact hb g hg
    · obtain ⟨p, hp, rfl⟩ := List.mem_map.mp hbm
      rcases List.mem_append.mp hp with hp | hp
      · exact hb' g hg p hp
      · exact hb' g hg p (sB p hp)
theorem mp_e0 (sB : ∀ p ∈ B, p ∈ R) (h0 : KdSep own tl (o :: (R ++ B).map (·.1))) (F : Fr h₀ L h' m') (N : News h₀ L h' ((o, listOf vs.toArray nn) :: (a, tupO [.int q.1 t1, .int q.2 t2] n8) :: (R ++ (tl ++ own))))
    (hk : ∀ p ∈ [(Str.ofString "out", Value.ref o), (Str.ofString "placed", Value.bool pl)], m' p.1 = some p.2) (hr : ∀ z, z ≠ x → (∀ p ∈ [(Str.ofString "out", Value.ref o), (Str.ofString "placed", Value.bool pl)], z ≠ p.1) → ([] : List Str).contains z = false → m' z = m₀ z)
    (hf : DatAll (B ++ tl) vs ds) (hp : MpI k v pre ds pl) (e : q.1 = k) :
    InvEndG h₀ L (MSt o R B x m₀ k v (pre ++ [tupD q])) own s₁ { s₁ with heap := h', toks := tk } := by
  refine mp_fin (nn' := nn) [] sB h0 F N ?_ (List.forall_mem_nil _) (List.forall_mem_nil _) (List.forall_mem_nil _) hk hr hf (mp_skip hp e)
  intro p hp
  simp only [List.nil_append, List.mem_cons, List.mem_append] at hp ⊢
  rcases hp with h | h | h | h
  · exact .inl h
  · exact .inr (.inr (.inl h))
  · exact .inr (.inr (.inr (.inl h)))
  · exact .inr (.inr (.inr (.inr h)))
theorem mp_e1 (sB : ∀ p ∈ B, p ∈ R) (h0 : KdSep own tl (o :: (R ++ B).map (·.1))) (F : Fr h₀ L h' m') (N : News h₀ L h' ((o, listOf (vs ++ [Value.ref a]).toArray (nn + 1)) :: (a, tupO [.int q.1 t1, .int q.2 t2] n8) :: (R ++ (tl ++ own))))
    (hk : ∀ p ∈ [(Str.ofString "out", Value.ref o), (Str.ofString "placed", Value.bool pl)], m' p.1 = some p.2) (hr : ∀ z, z ≠ x → (∀ p ∈ [(Str.ofString "out", Value.ref o), (Str.ofString "placed", Value.bool pl)], z ≠ p.1) → ([] : List Str).contains z = false → m' z = m₀ z)
    (ha : (a, tupO [.int q.1 t1, .int q.2 t2] n8) ∈ B ++ tl) (hf : DatAll (B ++ tl) vs ds) (hp : MpI k v pre ds pl) (e : ¬ q.1 = k) (e' : pl = true ∨ ¬ k < q.1) :
    InvEndG h₀ L (MSt o R B x m₀ k v (pre ++ [tupD q])) own s₁ { s₁ with heap := h', toks := tk } := by
  refine mp_fin (nn' := nn + 1) [] sB h0 F N ?_ (List.forall_mem_nil _) (List.forall_mem_nil _) (List.forall_mem_nil _) hk hr (hf.append (.one (.tuple ha (.cons (.int _ _) (.cons (.int _ _) .nil))))) ?_
  · intro p hp
    simp only [List.nil_append, List.mem_cons, List.mem_append] at hp ⊢
    rcases hp with h | h | h | h
    · exact .inl h
    · exact .inr (.inr (.inl h))
    · exact .inr (.inr (.inr (.inl h)))
    · exact .inr (.inr (.inr (.inr h)))
  · rcases e' with e' | e'
    · exact mp_add1 hp e e'
    · exact mp_add2 hp e e'
theorem mp_e2 (sB : ∀ p ∈ B, p ∈ R) (h0 : KdSep own tl (o :: (R ++ B).map (·.1))) (F : Fr h₀ L h' m') (N : News h₀ L h' all) (hn : ∀ p ∈ (o, listOf (vs ++ [Value.ref t] ++ [Value.ref a]).toArray (nn + 1 + 1)) :: (t, tupO [.int k t3, .int v t4] n9) :: (R ++ (tl ++ own)), p ∈ all) (hlt : ∀ p ∈ (o, listOf vs.toArray nn) :: (a, tupO [.int q.1 t1, .int q.2 t2] n8) :: (R ++ (tl ++ own)), p.1 < t)
    (hk : ∀ p ∈ [(Str.ofString "out", Value.ref o), (Str.ofString "placed", Value.bool true)], m' p.1 = some p.2) (hr : ∀ z, z ≠ x → (∀ p ∈ [(Str.ofString "out", Value.ref o), (Str.ofString "placed", Value.bool true)], z ≠ p.1) → ([] : List Str).contains z = false → m' z = m₀ z)
    (ha : (a, tupO [.int q.1 t1, .int q.2 t2] n8) ∈ B ++ tl) (hf : DatAll (B ++ tl) vs ds) (hp : MpI k v pre ds pl) (e : ¬ q.1 = k) (e' : pl = false) (e'' : k < q.1) :
    InvEndG h₀ L (MSt o R B x m₀ k v (pre ++ [tupD q])) own s₁ { s₁ with heap := h', toks := tk } := by
  have up : ∀ p ∈ B ++ tl, p ∈ B ++ ([(t, tupO [.int k t3, .int v t4] n9)] ++ tl) := fun p hp => by
    simp only [List.mem_cons, List.mem_append] at hp ⊢
    rcases hp with h | h
    · exact .inl h
    · exact .inr (.inr h)
  refine mp_fin (nn' := nn + 1 + 1) [(t, tupO [.int k t3, .int v t4] n9)] sB h0 F N ?_ ?_ ?_ ?_ hk hr ((((hf.mono up).append (.one (.tuple (a := t) (vs := [.int k t3, .int v t4]) (n := n9) ?_ (.cons (.int _ _) (.cons (.int _ _) .nil)))))).append (.one (.tuple (up _ ha) (.cons (.int _ _) (.cons (.int _ _) .nil))))) (mp_put hp e e' e'')
  · intro p hp
    refine hn p ?_
    simp only [List.mem_cons, List.mem_append, List.not_mem_nil, or_false] at hp ⊢
    rcases hp with h | h | h | h | h
    · exact .inl h
    · exact .inr (.inr (.inl h))
    · exact .inr (.inl h)
    · exact .inr (.inr (.inr (.inl h)))
    · exact .inr (.inr (.inr (.inr h)))
  · intro g hg
    rw [List.mem_singleton.mp hg]
    exact Nat.ne_of_lt (hlt _ List.mem_cons_self)
  · intro g hg p hp
    rw [List.mem_singleton.mp hg]
    exact Nat.ne_of_lt (hlt p (by simp only [List.mem_cons, List.mem_append]; exact .inr (.inr (.inl hp))))
  · intro g hg p hp
    rw [List.mem_singleton.mp hg]
    exact Nat.ne_of_lt (hlt p (by simp only [List.mem_cons, List.mem_append]; exact .inr (.inr (.inr (.inr hp)))))
  · show (t, _) ∈ _
    simp only [List.mem_cons, List.mem_append, true_or, or_true]
end
section
variable {news : List (Addr × Obj)}
theorem pairs_put1 {tl own all R tl8 : List (Addr × Obj)} {stored : List Str} {ns pre : List Int} {k key val : Int} {L o : Addr} {vs' : List Value} {ds : List Dat} {nn' : Nat} {m' : Str → Option Value} {s₁ : Shared} {h' : Heap} {tk : Nat}
    (h0 : KdSep own tl (news.map (·.1))) (F : Fr h₀ L h' m') (N : News h₀ L h' all) (off : OwnOff tl8 (o :: R.map (·.1))) (oR : ∀ p ∈ R, p.1 ≠ o) (sR : ∀ p ∈ news ++ (tl ++ own), p ∈ R) (hn : ∀ p ∈ (o, listOf vs'.toArray nn') :: (R ++ tl8), p ∈ all)
    (hk : ∀ p ∈ [(Str.ofString "out", Value.ref o)], m' p.1 = some p.2) (hr : ∀ z, z ≠ x → (∀ p ∈ [(Str.ofString "out", Value.ref o)], z ≠ p.1) → stored.contains z = false → m' z = m₀ z)
    (hd : DatAll ((news ++ tl) ++ tl8) vs' ds) (hds : ds = (mput (mall (dueP ns pre)) key val).map tupD) (hc : ¬ (cI ns k).fmod 3 = 0) (e1 : key = (kv (cI ns k) k).1) (e2 : val = (kv (cI ns k) k).2) :
    InvEndG h₀ L (PSt news x stored m₀ ns (pre ++ [k])) own s₁ { s₁ with heap := h', toks := tk } := by
  subst hds
  refine pairs_put (nn' := nn') ((o, listOf vs'.toArray nn') :: tl8) h0 F N ?_ ?_ ?_ ?_ hk hr ?_ (hd.mono ?_) hc e1 e2
  · intro p hp
    refine hn p ?_
    simp only [List.cons_append, List.mem_cons, List.mem_append] at hp ⊢
    rcases hp with h | h | h | h
    · exact .inr (.inl (sR p (List.mem_append.mpr (.inl h))))
    · exact .inl h
    · exact .inr (.inr h)
    · exact .inr (.inl (sR p (List.mem_append.mpr (.inr (List.mem_append.mpr (.inl h))))))
  · intro p hp
    exact hn p (List.mem_cons_of_mem _ (List.mem_append.mpr (.inl (sR p (List.mem_append.mpr (.inr (List.mem_append.mpr (.inr hp))))))))
  · intro g hg b hb
    obtain ⟨p, hp, rfl⟩ := List.mem_map.mp hb
    have hpR := sR p (List.mem_append.mpr (.inl hp))
    rcases List.mem_cons.mp hg with rfl | hg
    · exact oR p hpR
    · exact fun e => off g hg p.1 (List.mem_cons_of_mem _ (List.mem_map.mpr ⟨p, hpR, rfl⟩)) e.symm
  · intro g hg p hp
    have hpR := sR p (List.mem_append.mpr (.inr (List.mem_append.mpr (.inr hp))))
    rcases List.mem_cons.mp hg with rfl | hg
    · exact oR p hpR
    · exact fun e => off g hg p.1 (List.mem_cons_of_mem _ (List.mem_map.mpr ⟨p, hpR, rfl⟩)) e.symm
  · simp only [List.cons_append, List.mem_append, List.mem_cons, true_or, or_true]
  · intro p hp
    simp only [List.cons_append, List.mem_cons, List.mem_append] at hp ⊢
    rcases hp with (h | h) | h
    · exact .inl h
    · exact .inr (.inr (.inr h))
    · exact .inr (.inr (.inl h))
theorem pairs_put2 {tl own all R tl8 : List (Addr × Obj)} {stored : List Str} {ns pre : List Int} {k key val : Int} {L o t : Addr} {vs' : List Value} {ds : List Dat} {nn' n9 : Nat} {t3 t4 : Tok} {m' : Str → Option Value} {s₁ : Shared} {h' : Heap} {tk : Nat}
    (h0 : KdSep own tl (news.map (·.1))) (F : Fr h₀ L h' m') (N : News h₀ L h' all) (off : OwnOff tl8 (o :: R.map (·.1))) (oR : ∀ p ∈ R, p.1 ≠ o) (sR : ∀ p ∈ news ++ (tl ++ own), p ∈ R) (hlt : ∀ p ∈ (o, listOf vs'.toArray nn') :: (R ++ tl8), p.1 < t) (hn : ∀ p ∈ (o, listOf (vs' ++ [Value.ref t]).toArray (nn' + 1)) :: (t, tupO [.int key t3, .int val t4] n9) :: (R ++ tl8), p ∈ all)
    (hk : ∀ p ∈ [(Str.ofString "out", Value.ref o)], m' p.1 = some p.2) (hr : ∀ z, z ≠ x → (∀ p ∈ [(Str.ofString "out", Value.ref o)], z ≠ p.1) → stored.contains z = false → m' z = m₀ z)
    (hd : DatAll ((news ++ tl) ++ tl8) vs' ds) (hds : ds ++ [tupD (key, val)] = (mput (mall (dueP ns pre)) key val).map tupD) (hc : ¬ (cI ns k).fmod 3 = 0) (e1 : key = (kv (cI ns k) k).1) (e2 : val = (kv (cI ns k) k).2) :
    InvEndG h₀ L (PSt news x stored m₀ ns (pre ++ [k])) own s₁ { s₁ with heap := h', toks := tk } := by
  refine pairs_put (nn' := nn' + 1) (vs' := vs' ++ [Value.ref t]) (key := key) (val := val) ((o, listOf (vs' ++ [Value.ref t]).toArray (nn' + 1)) :: (t, tupO [.int key t3, .int val t4] n9) :: tl8) h0 F N ?_ ?_ ?_ ?_ hk hr ?_ ?_ hc e1 e2
  · intro p hp
    refine hn p ?_
    simp only [List.cons_append, List.mem_cons, List.mem_append] at hp ⊢
    rcases hp with h | h | h | h | h
    · exact .inr (.inr (.inl (sR p (List.mem_append.mpr (.inl h)))))
    · exact .inl h
    · exact .inr (.inl h)
    · exact .inr (.inr (.inr h))
    · exact .inr (.inr (.inl (sR p (List.mem_append.mpr (.inr (List.mem_append.mpr (.inl h)))))))
  · intro p hp
    exact hn p (List.mem_cons_of_mem _ (List.mem_cons_of_mem _ (List.mem_append.mpr (.inl (sR p (List.mem_append.mpr (.inr (List.mem_append.mpr (.inr hp)))))))))
  · intro g hg b hb
    obtain ⟨p, hp, rfl⟩ := List.mem_map.mp hb
    have hpR := sR p (List.mem_append.mpr (.inl hp))
    rcases List.mem_cons.mp hg with rfl | hg
    · exact oR p hpR
    rcases List.mem_cons.mp hg with rfl | hg
    · exact Nat.ne_of_lt (hlt p (List.mem_cons_of_mem _ (List.mem_append.mpr (.inl hpR))))
    · exact fun e => off g hg p.1 (List.mem_cons_of_mem _ (List.mem_map.mpr ⟨p, hpR, rfl⟩)) e.symm
  · intro g hg p hp
    have hpR := sR p (List.mem_append.mpr (.inr (List.mem_append.mpr (.inr hp))))
    rcases List.mem_cons.mp hg with rfl | hg
    · exact oR p hpR
    rcases List.mem_cons.mp hg with rfl | hg
    · exact Nat.ne_of_lt (hlt p (List.mem_cons_of_mem _ (List.mem_append.mpr (.inl hpR))))
    · exact fun e => off g hg p.1 (List.mem_cons_of_mem _ (List.mem_map.mpr ⟨p, hpR, rfl⟩)) e.symm
  · simp only [List.cons_append, List.mem_append, List.mem_cons, true_or, or_true]
  · rw [← hds]
    refine (hd.mono ?_).append (.one (.tuple (a := t) (vs := [.int key t3, .int val t4]) (n := n9) ?_ (.cons (.int _ _) (.cons (.int _ _) .nil))))
    · intro p hp
      simp only [List.cons_append, List.mem_cons, List.mem_append] at hp ⊢
      rcases hp with (h | h) | h
      · exact .inl h
      · exact .inr (.inr (.inr (.inr h)))
      · exact .inr (.inr (.inr (.inl h)))
    · show (t, _) ∈ _
      simp only [List.cons_append, List.mem_append, List.mem_cons, true_or, or_true]
end
theorem app_ref {D a L : Addr} {m : Str → Option Value} {news news' : List (Addr × Obj)} {vs : List Value} {n : Nat} {Q : Value → Shared → Prop} (F : Fr h₀ L s.heap m) (N : News h₀ L s.heap news) (U : Upd D (listOf vs.toArray n) (listOf (vs ++ [Value.ref a]).toArray (n + 1)) news news') (hz : vs.length ≤ 256)
    (h : ∀ h', Fr h₀ L h' m → News h₀ L h' news' → Q .none { s with heap := h' }) :
    wpAny (model prog w) A (call (.builtin "list.append") [.ref D, .ref a]) Q E s := by
  have e : (vs ++ [Value.ref a]).toArray = vs.toArray.push (Value.ref a) := by simp
  rw [e] at U
  exact append_K F N U (fun h' F' N' => h h' F' N') (by rw [List.size_toArray, sizeLine_eq]; omega)
end
end Mine
end
namespace Mine
def q28 : Program := view PySem.Challenge.pw_k14_0028 [0, 2, 3, 4, 5, 6, 7, 8, 9, 10, 11, 12, 13, 15, 16, 17]
def as28 : List Addr := [2, 3, 15, 17, 18, 20, 21, 22, 29, 30, 31, 32, 35, 42, 43, 44, 45, 48, 55, 56, 57, 58, 61, 68, 69, 70, 71, 74, 76, 77, 79, 80, 81, 83, 84, 86, 87, 88, 90, 91, 93, 94, 95, 97, 98, 100, 101, 102, 104, 105, 107, 108, 109, 111, 112, 114, 115, 123, 126, 127, 128, 130, 131, 133, 134, 135, 137, 138, 140, 141, 142, 145, 146, 147, 148, 149, 150, 151, 161, 163, 164, 166, 167, 168, 170, 171, 173, 174, 175, 177, 178, 180, 181, 182, 184, 185, 187, 188, 189, 191, 192, 194, 195, 196, 198, 199, 201, 202, 203, 205, 206, 208, 209, 210, 212, 213, 215, 216, 217, 219, 220, 222, 223, 224, 226, 227, 229, 230, 231, 233, 234, 236, 237, 238, 240, 241, 243, 244, 245, 247, 248, 250, 251, 252, 254, 255, 257, 258, 259, 261, 262, 264, 265, 266, 267, 268, 269, 270, 273, 275, 276, 278, 279, 280, 282, 283, 285, 286, 287, 289, 290, 292, 293]
end Mine
section
local macro_rules | `(tactic| o_head $_) => `(tactic| assumption)
set_option maxRecDepth 100000 in
theorem Mine.k0 (h : PySem.Challenge.rw_k14_0028.row.Holds) : PySem.Challenge.rw_k14_0028.row.Holds := by k_head
end
set_option maxRecDepth 100000 in
theorem Mine.left28 : LeftO PySem.Challenge.rw_k14_0028.row.prog Mine.q28 [] (fun s => xlAt Mine.q28 [] s && recOk (RowW.records (OpenRow.toRowW (OpenLaw.row PySem.Challenge.rw_k14_0028))) s) (Hook.obs (kHook Mine.k0.heap_1 Mine.as28 (fun _ => by kernel_rfl))) (Hook.val (kHook Mine.k0.heap_1 Mine.as28 (fun _ => by kernel_rfl))) 4348 := by
  refine Mine.left_tree 2200 (by kernel_rfl) (by kernel_rfl) (fun s => by kernel_rfl) (by kernel_rfl) (fun w os => by kernel_rfl) (fun w os => by kernel_rfl) (fun w os => ?_)
  kernel_rfl
local macro_rules | `(tactic| k_head) => `(tactic| (
  refine holds_open (q := Mine.q28) (loose := []) (XP := XL Mine.q28 []) (YP := Hook.says (kHook Mine.k0.heap_1 Mine.as28 (fun _ => by kernel_rfl))) Mine.left28 (Hook.of (kHook Mine.k0.heap_1 Mine.as28 (fun _ => by kernel_rfl))) (Hook.keeps (kHook Mine.k0.heap_1 Mine.as28 (fun _ => by kernel_rfl))) (fun s e => xl_of s (Bool.and_eq_true_iff.mp e).1) XL.keeps (by rfl) (by rfl) (by rfl) (fun s e => recFacts_of (Bool.and_eq_true_iff.mp e).2) (by rfl) (by first | assumption | decide +kernel) (by decide +kernel) ⟨rfl, rfl, rfl, rfl, rfl, by decide +kernel⟩ ?hw ?hc
  all_goals (try (rename _ = true => sd9; clear sd9))))
local macro_rules | `(tactic| walk_at $s:str) => `(tactic| k_extra $s)
local macro_rules | `(tactic| k_lt $h:ident) => `(tactic| skip)
local macro_rules | `(tactic| kd_subs) => `(tactic| k_extra "kd_subs")
local macro_rules | `(tactic| k_ne) => `(tactic| k_extra "k_ne")
local macro_rules | `(tactic| kd_adr) => `(tactic| k_extra "kd_adr")
local macro_rules | `(tactic| k_all) => `(tactic| k_extra "k_all")
local macro_rules | `(tactic| kcf_all) => `(tactic| k_extra "kcf_all")
local macro_rules | `(tactic| walk_at "noteFrame ref") => `(tactic| k_extra "nf")
set_option maxRecDepth 100000 in
set_option maxHeartbeats 40000000 in
theorem PySem.Challenge.cw_k14_0028_holds : PySem.Challenge.rw_k14_0028.Holds := by
  k_with "binaryOp Mod int int" => (k_here; (with_reducible show wpAny _ (Around.deeper _ (envOf (Str.ofString "law") _ _ _ _)) (binaryOp Operator.Mod (Value.int _ _) (Value.int (1 + _) _)) _ _ _); k_dflt (refine Mine.mod_any (by omega) ?_); intro r9 r9lo r9hi)
  k_with "binaryOp Mod int int" => (k_here; (with_reducible show wpAny _ (Around.deeper _ (envOf (Str.ofString "law") _ _ _ _)) (binaryOp Operator.Mod (Value.int (cellAt _ 0 _) _) (Value.int 3 _)) _ _ _); k_dflt (refine Mine.mod_any (by omega) ?_); intro rS rSlo rShi)
  k_with "binaryOp Mod int int" => (k_here; (with_reducible show wpAny _ (Around.deeper _ (envOf (Str.ofString "law") _ _ _ _)) (binaryOp Operator.Mod (Value.int (cellAt _ 1 _) _) (Value.int 3 _)) _ _ _); k_dflt (refine Mine.mod_any (by omega) ?_); intro rG rGlo rGhi)
  k_with "binaryOp Mod int int" => (k_here; (with_reducible show wpAny _ (Around.deeper _ (envOf (Str.ofString "law") _ _ _ _)) (binaryOp Operator.Mod (Value.int (cellAt _ 5 _) _) (Value.int 4 _)) _ _ _); k_dflt (refine Mine.mod_any (by omega) ?_); intro rB rBlo rBhi)
  k_with "binaryOp Mod int int" => (k_here; (with_reducible show wpAny _ (Around.deeper _ (envOf (Str.ofString "law") _ _ _ _)) (binaryOp Operator.Mod (Value.int (cellAt _ 6 _ + 1) _) (Value.int _ _)) _ _ _); k_dflt (refine Mine.mod_any (by omega) ?_); intro rN rNlo rNhi)
  k_with "binaryOp Mod int int" => (k_here; (with_reducible show wpAny _ (Around.deeper _ (envOf (Str.ofString "law") _ _ _ _)) (binaryOp Operator.Mod (Value.int (cellAt _ 10 _) _) (Value.int _ _)) _ _ _); k_dflt (refine Mine.mod_any (by omega) ?_); intro rK rKlo rKhi)
  k_with "CompEnd ref" => (k_here; (with_reducible show LCg.CompEnd _ _ _ _ _ _ _ _ _ _ _ (Mine.RowEnd _ _ _ _) _ _); k_dflt (refine' Mine.row_end ?k1 ?k2 ?k3 ?k4 ?k5 ?k6 ?k7 ?k8 ?k9; (case k1 => assumption); (case k2 => assumption); (case k3 => ((simp only [List.nil_append, List.cons_append]); kcf_all)); (case k4 => assumption); (case k5 => (refine ⟨?_, ?_, ?_⟩ <;> k_ne)); (case k6 => ((simp only [List.map_cons, List.map_nil]); kd_adr)); (case k7 => first | exact True.intro | exact Or.inr ⟨_, by kcf_m, rfl, _, rfl⟩); (case k8 => l_ints); (case k9 => first | exact ⟨_, rfl, rfl⟩ | exact rfl)))
  k_with "CompEnd ref" => (k_here; (with_reducible show LCg.CompEnd _ _ _ _ _ _ _ _ _ _ _ (Mine.RowEnd _ _ _ _) _ _); k_dflt (refine' Mine.row_end2 ?k1 ?k2 ?k3 ?k4 ?k5 ?k7 ?k8 ?k9; (case k1 => assumption); (case k2 => assumption); (case k3 => ((simp only [List.nil_append, List.cons_append, List.append_assoc]); kcf_all)); (case k4 => assumption); (case k5 => ((rename (∀ q, q ∈ _ → _ < _) => l8); (simp only [List.nil_append, List.cons_append, List.append_assoc]); exact l8)); (case k7 => first | exact True.intro | exact Or.inr ⟨_, by kcf_m, rfl, _, rfl⟩); (case k8 => l_ints); (case k9 => first | exact ⟨_, rfl, rfl⟩ | exact rfl)))
  k_with "FinA" => (k_here; (unfold LCg.FinA); intro D' h' tk' F' N' o1'; (try simp only [List.nil_append, List.cons_append, List.append_assoc] at N'); (try simp only [List.nil_append, List.cons_append, List.append_assoc] at o1'); (try dsimp only))
  k_with "FinA" => (k_here; (unfold LCg.FinA); intro D' h' tk' F' N' o1'; (have o2' := Mine.off1_own o1'); (simp only [List.nil_append, List.cons_append] at N' o1'); (rename OwnOff _ [_] => o3'); (rename OwnOff _ (List.map _ _) => ow9); (simp only [List.map_cons, List.map_nil] at ow9); (try dsimp only))
  k_with "FinE" => (k_here; (unfold LCg.FinE); intro D' h' tk' F' N' o1'; (try simp only [List.nil_append, List.cons_append, List.append_assoc] at N'); (try simp only [List.nil_append, List.cons_append, List.append_assoc] at o1'); (try dsimp only))
  k_with "FinE" => (k_here; (unfold LCg.FinE); intro D' h' tk' F' N' o1'; (have o2' := Mine.off1_own o1'); (simp only [List.nil_append, List.cons_append, List.append_assoc] at N' o1'); (rename OwnOff _ [_] => o3'); (rename OwnOff _ (List.map _ _) => ow9); (simp only [List.map_cons, List.map_nil] at ow9); (try dsimp only))
  k_with "eval ListComp Call cons" => (k_here; k_dflt (refine LCg.ListComp_U (F₀ := by k_asm) (by with_unfolding_all rfl) (by decide) (by rfl) (by decide) (by rfl) ?_))
  k_with "call type:list cons nil" => (k_here; (with_reducible show wpAny _ _ (call (Value.type _) [Value.ref _]) _ _ _); k_dflt (refine Mine.copy_row (by k_asm) (by k_asm) (by assumption) (by kcf_all) (by assumption) (by assumption) ?_); intro D' c' h' F' N' l1; (try k_lt l1); (try k_sweep))
  k_with "kd_subs" => ((try simp only [List.nil_append, List.cons_append, List.append_assoc, List.append_nil]); kcf_all)
  k_with "k_ne" => ((try dsimp only); first | (with_reducible assumption) | (with_reducible exact Ne.symm (by assumption)) | (with_reducible exact (Mine.offx_e (by assumption) (by kcf_m)).symm) | (with_reducible exact (Mine.offx_T (by assumption) (by kcf_m)).symm) | (with_reducible exact (Mine.offx_t (by assumption) (by kcf_m)).symm) | (with_reducible exact Mine.off1_at (by assumption) (by kcf_m)) | (with_reducible exact (Mine.off1_at (by assumption) (by kcf_m)).symm) | (refine neN ?_; kd_ltNe) | (refine neN (Ne.symm ?_); kd_ltNe) | (with_reducible exact Mine.ne_chain (by assumption) (by assumption) (by kcf_m)) | (with_reducible exact (Mine.ne_chain (by assumption) (by assumption) (by kcf_m)).symm) | (with_reducible exact Nat.ne_of_gt (by assumption)) | (with_reducible exact Nat.ne_of_lt (by assumption)) | (refine neN ?_; omega))
  k_with "kd_adr" => first | exact List.forall_mem_nil _ | (refine List.forall_mem_cons.mpr ⟨?kdh, ?kdt⟩; (case kdh => ((try dsimp only); first | kd_ltNe | k_ne)); (case kdt => kd_adr)) | kd_adrTail
  k_with "callWith ref cons nil" => (k_here; (with_reducible show wpAny _ _ (callWith _ (Value.ref _) _ (backTo _ (starEach [] _)) []) _ _ _); k_dflt (refine' callWith_K0 ?k1 ?k2 ?_; (case k1 => exact Frag.In.keeps (by k_asm) (Fr.keep (by k_asm))); (case k2 => k_is); k_whole))
  k_with "k_all" => first | (with_reducible assumption) | (with_reducible exact Mine.own_ne (by assumption) (by kcf_m)) | (with_reducible exact fun p9 h9 => Mine.ne_ltT (by assumption) p9 (by kcf_m)) | (with_reducible exact fun p9 h9 => Mine.ne_chT (by assumption) (by assumption) p9 (by kcf_m)) | exact List.forall_mem_nil _ | (refine' List.forall_mem_cons.mpr ⟨?a, ?b⟩; (case a => k_ne); (case b => k_all)) | (refine List.forall_mem_append.mpr ⟨?_, ?_⟩; (focus k_all); k_all) | (with_reducible exact fun p9 h9 => Mine.off1_ne (by assumption) p9 (by kcf_m))
  k_with "call type:range cons nil" => (k_here; (with_reducible show wpAny _ (Around.deeper _ (envOf (Str.ofString "law") _ _ _ _)) (call (Value.type _) [Value.int _ _]) _ _ _); (rename Fr _ _ _ _ => F'); (rename News _ _ _ _ => N'); (with_unfolding_all refine range1_rows F' N' ?_; intro _ _ _ _ _ _ _ _ _))
  k_with "CompSrc Call nil ref" => (k_here; k_dflt ((refine LCg.CompSrc.ledger (by rfl) (by k_asm) (by k_asm) (by k_memK) (by exact Mine.size_len (by assumption) (by first | assumption | ((simp only [List.length_append, List.length_replicate, Mine.tab_len, rangeKs_length, List.length_set]); omega))) ?_); intro g'; (refine Mine.compCopy0 (by assumption) (by first | assumption | exact Mine.rep_rows rfl | exact Mine.set_rows (Mine.set_rows (Mine.rep_rows rfl) rfl) rfl) (fun a' us' nn' ns' I' oI' C' oC' D' m' ys' tl' h' tk' E' hm' hI' hl' hC' hx' F' N' off' ne' mk1 mk2 => ?_) (fun ys' TL' ow' da' mk1 mk2 => ?_))); (all_goals (try simp only [List.nil_append, List.cons_append, List.append_assoc] at N')))
  k_with "binaryOp Mult ref int" => (k_here; (with_reducible show wpAny _ (Around.deeper _ (envOf (Str.ofString "law") _ _ _ _)) (binaryOp Operator.Mult (Value.ref _) (Value.int _ _)) _ _ _); k_dflt ((refine' Mine.mul_row ?k1 ?k2 ?k3 ?k4 ?k5 ?k6 ?k7 ?_); (case k1 => k_asm); (case k2 => k_asm); (case k3 => k_memK); ((case k4 => k_memK)); ((case k5 => l_ints)); ((case k6 => omega)); ((case k7 => omega))); intro D' h' zs' F' N' l1 da9; (try k_lt l1); (try k_sweep))
  k_with "binaryOp Add ref ref" => (k_here; (with_reducible show wpAny _ (Around.deeper _ (envOf (Str.ofString "law") _ _ _ _)) (binaryOp Operator.Add (Value.ref _) (Value.ref _)) _ _ _); k_dflt ((refine' Mine.add_dat ?k1 ?k2 ?k3 ?k4 ?k5 ?k6 ?k7 ?_); (case k1 => k_asm); (case k2 => k_asm); (case k3 => k_memK); (case k4 => k_memK); ((case k5 => assumption)); ((case k6 => assumption)); ((case k7 => ((simp only [List.length_replicate, Mine.tab_len, rangeKs_length]); omega)))); intro D' h' zs' F' N' l1 da9; (try k_lt l1); (try k_sweep))
  k_with "binaryOp Mult int int" => (k_here; (with_reducible show wpAny _ _ (binaryOp Operator.Mult (Value.int _ _) (Value.int 256 _)) _ _ _); refine mul_int ?_ (IntMulOk.of_right (by decide)))
  k_with "binaryOp Mult int int" => (k_here; (with_reducible show wpAny _ _ (binaryOp Operator.Mult (Value.int _ _) (Value.int 16777216 _)) _ _ _); refine mul_int ?_ (IntMulOk.of_right (by decide)))
  k_with "KCj cons int" => (kpf_tidy; k_dflt (refine kcj_end ?kce (by with_unfolding_all rfl) rfl (by assumption) (by assumption) (by kcf_all)); (case kce => kpf_eq))
  k_with "subscriptTail Attribute Name" => (k_here; (rename KdSep _ _ _ => ks9); (with_reducible show wpAny _ (Around.deeper _ (envOf (Str.ofString "Vault.stage") _ _ _ _)) (subscriptTail _ _ (Value.ref _) (Value.int _ _)) _ _ _); k_dflt ((refine' Mine.stg_item ?k1 ?k2 ?k3 ?k4 ?k5 ?k6 ?k7 ?_ ?k8); ((case k1 => k_asm)); ((case k2 => k_memK)); ((case k3 => assumption)); ((case k4 => assumption)); ((case k5 => omega)); ((case k6 => omega)); ((case k7 => omega)); ((case k8 => with_unfolding_all rfl))); intro a' i' t' b' vs' n' n2' r' m1' m2' I' len')
  k_with "setItem ref int ref" => (k_here; (rename KdSep _ _ _ => ks9); (with_reducible show wpAny _ (Around.deeper _ (envOf (Str.ofString "Vault.stage") _ _ _ _)) (setItem (Value.ref _) (Value.int _ _) (Value.ref _)) _ _ _); k_dflt ((refine' Mine.set_tup ?k1 ?k2 ?k3 ?k4 ?k5 ?k6 ?k7 ?k8 ?k9 ?k10 ?k11 ?k12 ?_); ((case k1 => k_asm)); ((case k2 => k_asm)); ((case k3 => k_upd)); ((case k4 => k_memK)); ((case k5 => k_memK)); ((case k6 => l_ints)); ((case k7 => first | rfl | decide | assumption)); ((case k8 => assumption)); ((case k9 => assumption)); ((case k10 => omega)); ((case k11 => omega)); ((case k12 => omega))); intro h' es9 F' N' dat9 tp9 ln9; (try k_sweep))
  k_with "subscriptTail Subscript" => (k_here; (with_reducible show wpAny _ _ (subscriptTail _ _ (Value.ref _) (Value.int 0 _)) _ _ _); k_dflt ((refine' Mine.tup_at0 ?k1 ?k2 ?k3 ?_ ?k4); (case k1 => k_asm); ((case k2 => assumption)); ((case k3 => kcf_all)); ((case k4 => with_unfolding_all rfl))))
  k_with "subscriptTail Subscript" => (k_here; (with_reducible show wpAny _ _ (subscriptTail _ _ (Value.ref _) (Value.int 1 _)) _ _ _); k_dflt ((refine' Mine.tup_at1 ?k1 ?k2 ?k3 ?_ ?k4); (case k1 => k_asm); ((case k2 => assumption)); ((case k3 => kcf_all)); ((case k4 => with_unfolding_all rfl))))
  k_with "call builtin:list.append cons nil" => (k_here; (rename KdSep _ _ _ => ks9); (with_reducible show wpAny _ (Around.deeper _ (envOf (Str.ofString "Vault.stage") _ _ _ _)) (call (Value.builtin _) [Value.ref _, Value.ref _]) _ _ _); k_dflt ((refine' Mine.app_tup ?k1 ?k2 ?k3 ?k4 ?k5 ?k6 ?k7 ?k8 ?k9 ?k10 ?_); ((case k1 => k_asm)); ((case k2 => k_asm)); ((case k3 => k_upd)); ((case k4 => k_memK)); ((case k5 => k_memK)); ((case k6 => l_ints)); ((case k7 => first | rfl | decide | assumption)); ((case k8 => assumption)); ((case k9 => assumption)); ((case k10 => omega))); intro h' es9 F' N' dat9 tp9 ln9; (try k_sweep))
  k_with "InvEndG" => (k_dflt ((rename DatAll _ _ _ => dat8); (rename News _ _ _ _ => lN8); (refine' Mine.kd_end4 ?kdS ?kdF ?kdN ?kdf ?kdn ?kdo ?kda ?l1 ?s1 ?w1 ?l2 ?s2 ?w2 ?ka2 ?kdk ?kdr ?kdp); ((case kdS => assumption)); ((case kdF => assumption)); ((case kdN => exact lN8)); ((case kdf => ((try dsimp only); (refine DatAll.mono ?_ dat8); (try simp only [List.nil_append, List.cons_append, List.append_assoc]); kcf_all))); ((case kdn => ((try dsimp only); (try simp only [List.nil_append, List.cons_append, List.append_assoc]); kcf_all))); ((case kdo => kcf_all)); ((case kda => kd_rfl)); ((case l1 => assumption)); ((case s1 => ((try dsimp only); (try simp only [List.nil_append, List.cons_append, List.append_assoc]); kcf_all))); ((case w1 => kcf_all)); ((case l2 => assumption)); ((case s2 => ((try dsimp only); (try simp only [List.nil_append, List.cons_append, List.append_assoc]); kcf_all))); ((case w2 => kcf_all)); ((case ka2 => kd_rfl)); ((case kdk => kst_all)); ((case kdr => kst_same)); ((case kdp => kd_p))))
  k_with "InvEndG" => (kd_close)
  k_with "execs cons For cons" => (k_here; (with_reducible show wpAny _ (Around.deeper _ (envOf (Str.ofString "law") _ _ _ _)) (execs (PySem.Stmt.For _ _ [PySem.Stmt.Assign _ _ _, PySem.Stmt.Expr _ _] _ _ :: _) _) _ _ _); (rename Fr _ _ _ _ => lF'); (rename News _ _ _ _ => lN'); (rename DatAll _ _ (Mine.dueD _ _) => hdue9); k_dflt ((refine' Mine.hide28 lF' lN' ?hy ?hd ?o1 ?o2 ?o3 ?o4 ?o5 ?o6 ?o7 ?e1 ?e2 ?e3 ?e4 ?e5 ?e6 ?_); ((case hy => assumption)); ((case hd => exact hdue9)); ((case o1 => k_all)); ((case o2 => k_all)); ((case o3 => k_all)); ((case o4 => k_all)); ((case o5 => k_all)); ((case o6 => k_all)); ((case o7 => k_all)); ((case e1 => kd_adr)); ((case e2 => kd_adr)); ((case e3 => kd_adr)); ((case e4 => kd_adr)); ((case e5 => kd_adr)); ((case e6 => kd_adr))); (clear lF' lN' hdue9); (repeat (rename (∀ q, q ∈ _ → _ < _) => z9; clear z9)); (repeat (rename DatAll _ _ _ => z9; clear z9)); (repeat (rename OwnOff _ _ => z9; clear z9)); rintro uA uB uC uD uE uF uG uH vB vC vG vH hp9 tk9 R9 F9 N9 daB9 daD9 oR1 oR2 oR3 oR4 oR5 oR6 oR7 ⟨⟨a91, a92, a93, a94, a95, a96⟩, ⟨b91, b92, b93, b94, b95⟩, ⟨c91, c92, c93, c94⟩, ⟨d91, d92, d93⟩, ⟨f91, f92⟩, g91⟩)
  k_with "call ref cons nil" => (k_here; (with_reducible show wpAny _ (Around.deeper _ (envOf (Str.ofString "law") _ _ _ _)) _ _ _ _); (show wpAny _ _ (call (Value.ref _) [Value.ref _, Value.int _ _, Value.ref _]) _ _ _); refine wpAny_call ?_; (refine' code_def ?k1 ?k2 ?k3 ?k4 ?k5 ?kA ?kF ?kK ?k6 ?k7 ?k8 ?k9 ?kB ?_ ?c2 ?c3 ?c4 ?c5; (case kA => exact rfl); (case kF => exact rfl); (case kK => exact rfl); (case k1 => k_asm); (case k2 => k_asm); (case k3 => k_asm); (case k4 => k_asm); (case k5 => k_asm); (case k6 => k_is); (case k7 => k_is); (case k8 => k_room); (case k9 => first | exact BindsTo.of_eq rfl | exact binds_K (by k_in) rfl (by k_is) rfl rfl rfl); (case c5 => decide); (case kB => exact locs rfl); (case c2 => exact rfl); (case c3 => exact rfl); (case c4 => exact rfl); k_whole; intro g' L' h' FG' F' N' B' X' T'; (try dsimp only); (try k_lift B'); (try k_fold)))
  k_with "call ref cons nil" => (k_here; (with_reducible show wpAny _ (Around.deeper (Around.deeper _ _) _) _ _ _ _); (show wpAny _ _ (call (Value.ref _) (_ :: _)) _ _ _); refine wpAny_call ?_; first | (refine' code_defS ?k1 ?k2 ?k3 ?k4 ?k5 ?XB ?TB ?D ?T0 ?kA ?k6 ?k7 ?k8 ?k9 ?kB ?_ ?cK ?c2 ?c3 ?c4 ?c5; (case kA => exact rfl); (case k2 => k_asm); (case k1 => k_asm); (case XB => assumption); (case TB => assumption); (case D => assumption); (case T0 => first | assumption | exact KtsTurn.refl); (case k3 => k_asm); (case k4 => k_asm); (case k5 => k_asm); (case k6 => k_is); (case k7 => k_is); (case k8 => k_room); (case k9 => first | exact BindsTo.of_eq rfl | exact binds_K (by k_in) rfl (by k_is) rfl rfl rfl); (case kB => exact locs rfl); (case cK => exact rfl); (case c2 => exact rfl); (case c3 => exact rfl); (case c4 => exact rfl); (case c5 => decide); k_whole; intro g' L' h' FG' F' N' B' X' T' D'; (try dsimp only); (try k_lift B'); (try k_fold)) | (refine' code_def ?k1 ?k2 ?k3 ?k4 ?k5 ?kA ?kF ?kK ?k6 ?k7 ?k8 ?k9 ?kB ?_ ?c2 ?c3 ?c4 ?c5; (case kA => exact rfl); (case kF => exact rfl); (case kK => exact rfl); (case k1 => k_asm); (case k2 => k_asm); (case k3 => k_asm); (case k4 => k_asm); (case k5 => k_asm); (case k6 => k_is); (case k7 => k_is); (case k8 => k_room); (case k9 => first | exact BindsTo.of_eq rfl | exact binds_K (by k_in) rfl (by k_is) rfl rfl rfl); (case c5 => decide); (case kB => exact locs rfl); (case c2 => exact rfl); (case c3 => exact rfl); (case c4 => exact rfl); k_whole; intro g' L' h' FG' F' N' B' X' T'; (try dsimp only); (try k_lift B'); (try k_fold)))
  k_with "call ref nil" => (k_here; (with_reducible show wpAny _ (Around.deeper _ _) _ _ _ _); (show wpAny _ _ (call (Value.ref _) [Value.ref _]) _ _ _); refine wpAny_call ?_; (refine' code_def ?k1 ?k2 ?k3 ?k4 ?k5 ?kA ?kF ?kK ?k6 ?k7 ?k8 ?k9 ?kB ?_ ?c2 ?c3 ?c4 ?c5; (case kA => exact rfl); (case kF => exact rfl); (case kK => exact rfl); (case k1 => k_asm); (case k2 => k_asm); (case k3 => k_asm); (case k4 => k_asm); (case k5 => k_asm); (case k6 => k_is); (case k7 => k_is); (case k8 => k_room); (case k9 => first | exact BindsTo.of_eq rfl | exact binds_K (by k_in) rfl (by k_is) rfl rfl rfl); (case c5 => decide); (case kB => exact locs rfl); (case c2 => exact rfl); (case c3 => exact rfl); (case c4 => exact rfl); k_whole; intro g' L' h' FG' F' N' B' X' T'; (try dsimp only); (try k_lift B'); (try k_fold)))
  k_with "call ref nil" => (k_here; (with_reducible show wpAny _ (Around.deeper _ _) _ _ _ _); (show wpAny _ _ (call (Value.ref 258) [Value.ref _]) _ _ _); refine wpAny_call ?_; (refine' code_defS0 ?k1 ?k2 ?k3 ?k4 ?k5 ?kA ?k6 ?k7 ?k8 ?k9 ?kB ?_ ?cK ?c2 ?c3 ?c4 ?c5; (case kA => exact rfl); (case k2 => k_asm); (case k1 => k_asm); (case k3 => k_asm); (case k4 => k_asm); (case k5 => k_asm); (case k6 => k_is); (case k7 => k_is); (case k8 => k_room); (case k9 => first | exact BindsTo.of_eq rfl | exact binds_K (by k_in) rfl (by k_is) rfl rfl rfl); (case kB => exact locs rfl); (case cK => exact rfl); (case c2 => exact rfl); (case c3 => exact rfl); (case c4 => exact rfl); (case c5 => decide); k_whole; intro g' L' h' FG' F' N' B' X' T' D'; (try dsimp only); (try k_lift B'); (try k_fold)))
  k_with "execs cons If cons" => (k_here; (with_reducible show wpAny _ _ (execs (PySem.Stmt.If _ [PySem.Stmt.Try _ _ _ _ _] _ _ :: _ :: _) _) _ _ _); (rename Fr _ _ _ _ => lF'); (rename News _ _ _ _ => lN'); (rename _ ≤ List.length (rangeKs 0 (rN - 0).toNat) => lr9); (rw [rangeKs_length] at lr9); k_dflt (refine Mine.cutD lF' lN' (rB - 1) (1 + (1 + rG)).toNat (Mine.dueD ns9 (rangeKs 0 (1 + rS - 0).toNat)) (List.replicate (1 + (1 + rG)).toNat (Mine.rowD (List.replicate (Int.toNat 16) [0]).flatten) ++ Mine.tabD ns9 (rangeKs 0 (1 + rS - 0).toNat)) [_] _ ?_ ?_); (refine Mine.hideF (fun P9 hP9 => ?_)); rotate_left; (clear lF' lN'; rintro lost9 bv9 nb9 bud9 t91 wr9 t92 ds9 R8 h9 tk9 u9 F9 N9 db9 dd9 ⟨q91, q92, q93, q94, q95, q96⟩ aft9; (simp only [kstB, List.contains_nil, Bool.false_eq_true, if_false] at F9); (have rw9 := aft9.2.1); (have le9 := Mine.aft_le aft9 rGhi rShi); (have lq9 := Mine.aft_eq aft9 rGlo rSlo)))
  k_with "isTrue BoolOp Or cons" => (k_here; (with_reducible show wpAny _ (Around.deeper _ (envOf (Str.ofString "law") _ _ _ _)) (PySem.isTrue (PySem.Expr.BoolOp _ [PySem.Expr.Compare (PySem.Expr.Name (Str.ofString "budget") _) _ _ _, _] _) _ _) _ _ _); (fail_if_success (with_reducible show wpAny _ _ _ (fun b s' => Mine.TestEnd _ _ b s') _ _)); (refine Mine.test_meet (fun b => (b = true ∧ (rB - 1 = 0 ∨ rB - 1 = 1)) ∨ (b = false ∧ ¬ (rB - 1 = 0 ∨ rB - 1 = 1))) ?_ ?_); rotate_left; (rintro b9 tk9 (⟨rfl, hB9⟩ | ⟨rfl, hB9⟩)))
  k_with "TestEnd" => (refine ⟨_, rfl, ?_⟩; first | exact Or.inl ⟨rfl, by omega⟩ | exact Or.inr ⟨rfl, by omega⟩)
  k_with "MidD" => ((k_dflt ((refine' Mine.MidD.mk ?k1 ?k2 ?k3 ?k4 ?k5 ?k6 ?k7 ?k8 ?k9 ?k10 ?k11 ?k12 ?k13); ((case k1 => k_asm)); ((case k2 => k_asm)); ((case k3 => kst_all)); ((case k4 => kst_same)); ((case k5 => ((simp only [Mine.Cst.led]); kcf_all))); ((case k6 => exact daD9)); ((case k7 => kcf_all)); ((case k8 => exact Mine.six_of oR2 oR3 oR4 oR5 oR6 oR7)); ((case k9 => exact Mine.due_short daD9 rSlo rShi)); ((case k10 => assumption)); ((case k11 => kcf_all)); ((case k12 => exact Mine.ds_pos rGlo rfl)); ((case k13 => first | exact Mine.aft_skip (Mine.rep_rows rfl) (by assumption) (by omega) (by omega) | exact Mine.aft_same (Mine.rep_rows rfl) | exact Mine.aft_set (Mine.rep_rows rfl) (by first | assumption | rfl | decide) (by omega))))))
  k_with "kcf_all" => ((with_reducible show ∀ p : Addr × Obj, p ∈ _ → Mine.U16 (Prod.snd p) → _); first | exact List.forall_mem_nil _ | (refine List.forall_mem_cons.mpr ⟨?_, ?_⟩; (focus first | (intro u9; kcf_m) | exact fun u9 => absurd u9 Mine.u16_dict | exact fun u9 => absurd u9 Mine.u16_inst | exact fun u9 => absurd u9 (Mine.u16_rows (by assumption) (Mine.rep_rows rfl) (Mine.ds_pos rGlo rfl))); kcf_all) | (refine List.forall_mem_append.mpr ⟨?_, ?_⟩; (focus kcf_all); kcf_all) | (intro p hp u9; kcf_m))
  k_with "nf" => (k_here; (with_reducible show wpAny _ (Around.deeper _ (envOf (Str.ofString "Vault.commit") _ _ _ _)) (noteFrame _ _) _ _ _); (rename RaisedS _ _ _ _ _ _ _ _ _ => rsX); k_dflt ((refine' Mine.caught_again ?R ?F ?K ?U ?XB ?TB ?D ?T0 ?ex ?q ?_); ((case R => exact rsX)); ((case F => assumption)); ((case K => assumption)); ((case U => assumption)); ((case XB => assumption)); ((case TB => assumption)); ((case D => assumption)); ((case T0 => first | assumption | exact KtsTurn.refl)); ((case ex => k_is)); ((case q => kts_isx)); k_whole); intro h' g' T9 oe9 oT9 ot9 T' F' N' C9 off9 K' X' P' D'; (try k_lift K'); (try k_sweep))
  k_with "exec Raise none none" => (k_here; (rename News _ _ _ ((_, _) :: (_, _) :: (_, _) :: _) => lN8); k_dflt ((refine' Mine.raise_head ?hh ?F lN8 ?C ?off ?_); ((case hh => rfl)); ((case F => assumption)); ((case C => assumption)); ((case off => k_extra "OffX"))); intro h' F' ba9)
  k_with "OffX" => first | exact Mine.offx_nil | (refine Mine.offx_cons (by assumption) (by kcf_m) ?_; k_extra "OffX") | (refine Mine.offx_app ?_ ?_; (focus k_extra "OffX"); k_extra "OffX") | exact Mine.offx_sub (by assumption) (by kcf_all)
  k_with "leaving ref" => (k_here; (with_reducible show wpAny _ (Around.deeper _ (envOf (Str.ofString "Vault.commit") _ _ _ _)) (leaving _ _) _ _ _); (rename Mine.BareAt _ _ _ _ _ _ _ _ => ba9); k_dflt ((refine' Mine.leave_bare ?K ?F ba9 ?_); ((case K => assumption)); ((case F => assumption)); k_whole); intro h' S' R' U'; (try dsimp only at S' R' U' ⊢))
  k_with "compareOp NotEq ref ref" => (k_here; (with_reducible show wpAny _ _ (compareOp CmpOp.NotEq (Value.ref _) (Value.ref _)) _ _ _); k_dflt (refine' Mine.ne_rows ?k1 ?k2 ?k3 ?k4 ?k5 ?k6 ?k7 ?k8 ?k9 ?k10 ?_; (case k1 => k_asm); (case k2 => k_memK); (case k3 => assumption); (case k4 => kcf_all); (case k5 => k_memK); (case k6 => assumption); (case k7 => kcf_all); (case k8 => first | assumption | exact Mine.set_rows (Mine.set_rows (Mine.rep_rows rfl) rfl) rfl); (case k9 => first | rfl | exact Mine.set00 rGlo rfl rfl | exact (Mine.set00 rGlo rfl rfl).symm); (case k10 => ke_room)))
  k_with "execs cons If cons" => (k_here; (with_reducible show wpAny _ (Around.deeper _ (envOf (Str.ofString "law") _ _ _ _)) (execs (PySem.Stmt.If (PySem.Expr.Compare (PySem.Expr.Call (PySem.Expr.Attribute _ (Str.ofString "pairs") _) _ _ _) _ _ _) _ _ _ :: _ :: _) _) _ _ _); (rename Fr _ _ _ _ => lF'); (rename News _ _ _ _ => lN'); k_dflt ((refine' Mine.cut_read ?F ?N ?hx ?mx ?md ?ms ?hx1 ?mx1 ?md1 ?hd1 ?mab ?hld ?mld R8 ?sR [_] _ ?h1 ?h2); ((case F => exact lF')); ((case N => exact lN')); ((case hx => with_unfolding_all rfl)); ((case mx => kcf_m)); ((case md => kcf_m)); ((case ms => kcf_m)); ((case hx1 => rfl)); ((case mx1 => kcf_m)); ((case md1 => kcf_m)); ((case hd1 => rfl)); ((case mab => kcf_m)); ((case hld => with_unfolding_all rfl)); ((case mld => kcf_m)); ((case sR => kcf_all))); (clear lF' lN'); (case' h1 => ((repeat (rename (∀ q, q ∈ _ → _ < _) => z9; clear z9)); (repeat (rename OwnOff _ _ => z9; clear z9)); intro RR9 F9 N9; (refine Mine.hideF (fun P9 hP9 => ?_)))); (case' h2 => (intro h9 tk9 F9 N9)))
  k_with "Same" => (k_dflt ((refine' Mine.Same.mk ?k1 ?k2 ?k3); ((case k1 => k_asm)); ((case k2 => k_asm)); ((case k3 => kcf_all))))
  k_with "subscriptTail Attribute Name" => (k_here; (with_reducible show wpAny _ (Around.deeper _ (envOf (Str.ofString "Vault.commit") _ _ _ _)) (subscriptTail _ _ (Value.ref _) (Value.int _ _)) _ _ _); k_dflt ((refine' Mine.stg_item ?k1 ?k2 ?k3 ?k4 ?k5 ?k6 ?k7 ?_ ?k8); ((case k1 => k_asm)); ((case k2 => k_memK)); ((case k3 => assumption)); ((case k4 => assumption)); ((case k5 => omega)); ((case k6 => omega)); ((case k7 => omega)); ((case k8 => with_unfolding_all rfl))); intro a' i' t' b' vs' n' n2' r' m1' m2' I' len')
  k_with "setItem ref int ref" => (k_here; (with_reducible show wpAny _ (Around.deeper _ (envOf (Str.ofString "Disk.write") _ _ _ _)) (setItem (Value.ref _) (Value.int _ _) (Value.ref _)) _ _ _); k_dflt ((refine' Mine.set_rowA ?k1 ?k2 ?k3 ?k4 ?k5 ?k6 ?k7 ?k8 ?k9 ?_); ((case k1 => k_asm)); ((case k2 => k_asm)); ((case k3 => k_upd)); ((case k4 => k_memK)); ((case k5 => l_ints)); ((case k6 => assumption)); ((case k7 => omega)); ((case k8 => first | omega | ((simp only [List.length_append, List.length_replicate, Mine.tab_len, rangeKs_length, List.length_set]); omega))); ((case k9 => omega))); intro h' F' N' dat9; (try k_sweep))
  k_with "execs cons Expr cons" => (k_here; (with_reducible show wpAny _ (Around.deeper _ (envOf (Str.ofString "law") _ _ _ _)) (execs (PySem.Stmt.Expr (PySem.Expr.Call (PySem.Expr.Attribute _ (Str.ofString "commit") _) _ _ _) _ :: _ :: _) _) _ _ _); (have hl8 : lost9 = false := by first | assumption | exact Bool.eq_false_iff.mpr (by assumption) | exact (Bool.not_eq_true _).mp (by assumption)); (obtain ⟨hB8, hb8, hw8, hd8⟩ := aft9.2.2.2 hl8); (subst hb8; subst hw8; subst hd8); (with_reducible refine wpAny_execs_cons ?_); (try dsimp only))
  k_with "compareOp Eq int int" => (k_here; (with_reducible show wpAny _ (Around.deeper _ (envOf (Str.ofString "Disk.write") _ _ _ _)) (compareOp CmpOp.Eq (Value.int _ _) (Value.int _ _)) _ _ _); first | refine Mine.eq_no (by omega) ?_ | refine Mine.eq_yes (by omega) ?_)
  k_with "compareOp Gt int int" => (k_here; (with_reducible show wpAny _ (Around.deeper _ (envOf (Str.ofString "Disk.write") _ _ _ _)) (compareOp CmpOp.Gt (Value.int _ _) (Value.int _ _)) _ _ _); first | refine Mine.gt_yes (by omega) ?_ | refine Mine.gt_no (by omega) ?_)
  k_with "nf" => (k_here; (with_reducible show wpAny _ (Around.deeper _ (envOf (Str.ofString "law") _ _ _ _)) (noteFrame _ _) _ _ _); (rename RaisedK _ _ _ _ _ _ _ _ => rkX); (with_reducible show wpAny _ _ (noteFrame _ _) (fun _ s₂ => wpAny _ _ (setFlight _ none) (fun _ s₃ => wpAny _ _ (handleBy _ _ (ExceptHandler.ExceptHandler (some (Expr.Name _ _)) none _ _ :: _)) _ _ s₃) _ s₂) _ _); k_dflt (refine' Mine.caught_C0 (bmB := [.type "Exception", .type "BaseException", .type "object"]) (newId := "Exception.__new__") ?K ?F ?U ?R ?X ?T ?ex ?q ?hb ?_ ?hk ?hx ?hd ?hE; (case K => assumption); (case F => assumption); (case U => first | assumption | exact (Mine.turn_up (by assumption)).trans (by assumption)); (case R => exact rkX); (case X => k_asm); (case T => k_asm); (case ex => k_is); (case q => k_exc); (case hb => rfl); (case hk => rfl); (case hx => rfl); (case hd => decide); (case hE => passes_own); k_whole); intro h' F' N'; (try k_sweep))
  k_with "kcf_all" => ((with_reducible show ∀ p : Addr × Obj, p ∈ _ → Mine.TupO (Prod.snd p) → _); first | exact List.forall_mem_nil _ | (refine List.forall_mem_cons.mpr ⟨?_, ?_⟩; (focus first | (intro u9; kcf_m) | exact fun u9 => absurd u9 Mine.no_tupD | exact fun u9 => absurd u9 Mine.no_tupI | exact fun u9 => absurd u9 Mine.no_tupL); kcf_all) | (refine List.forall_mem_append.mpr ⟨?_, ?_⟩; (focus kcf_all); kcf_all) | (intro p hp u9; kcf_m))
  k_with "UnrEnd" => ((with_reducible show UnrEnd _ (Env.locals (envOf (Str.ofString "Vault.commit") _ _ _ _)) _ _ _ _ _); (rename News _ _ _ (_ :: (_, itR _ _) :: _) => lN8); k_dflt ((refine' Mine.unr_one ?F lN8 ?o1 ?o2 ?_); ((case F => assumption)); ((case o1 => k_ne)); ((case o2 => k_all))))
  k_with "execs cons Assign cons" => (k_here; (with_reducible show wpAny _ (Around.deeper _ (envOf (Str.ofString "law") _ _ _ _)) (execs (PySem.Stmt.Assign [PySem.Expr.Name (Str.ofString "k") _] _ _ :: _ :: _ :: _ :: _ :: _ :: _ :: _) _) _ _ _); (rename Fr _ _ _ _ => lF'); (rename News _ _ _ _ => lN'); k_dflt ((refine' Mine.cutE ?F ?N ?hb ?mb ?mx ?md ?hx1 ?mx1 ?md1 ?hab ?hd1 ?mab ?hT R8 [_, _, _, _, _, _] _ ?_ ?_); ((case F => exact lF')); ((case N => exact lN')); ((case hab => with_unfolding_all rfl)); ((case mx => kcf_m)); ((case md => kcf_m)); ((case hx1 => rfl)); ((case mx1 => kcf_m)); ((case md1 => kcf_m)); ((case hd1 => rfl)); ((case mab => kcf_m)); ((case hb => with_unfolding_all rfl)); ((case mb => kcf_m)); ((case hT => assumption))); (refine Mine.hideF (fun P9 hP9 => ?_)); rotate_left; (clear lF' lN'; rintro ls9 n9 h9 tk9 u8 F9 N9 ⟨v91, v92, v93, v94, v95, v96⟩ oRT9; (simp only [kstB, List.contains_cons, List.contains_nil, Bool.or_false, beq_iff_eq] at F9)))
  k_with "MidE" => (k_dflt ((refine' Mine.MidE.mk ?k1 ?k2 ?k3 ?k4 ?k5 ?k6 ?k7); ((case k1 => k_asm)); ((case k2 => k_asm)); ((case k4 => (refine List.forall_mem_cons.mpr ⟨?_, ?_⟩; rotate_left; (focus ((try dsimp only); kcf_all)); k_memK))); ((case k3 => kst_same)); ((case k5 => kcf_all)); ((case k6 => kd_adr)); ((case k7 => k_all))))
  k_with "pyIter ref" => ((with_reducible show wpAny _ _ (pyIter (Value.ref _)) (fun it s₂ => LoopAtV _ _ _ _ _ _ [PySem.Stmt.Assign _ _ _, PySem.Stmt.Expr _ _, PySem.Stmt.If _ _ _ _] _ _ it s₂) _ _); (rename List Int => ns9); k_dat (fun pre table due => table = Mine.tabD ns9 pre ∧ due = Mine.dueD ns9 pre ∧ table.length = pre.length ∧ due.length ≤ pre.length) "table*" "due*")
  k_with "pyIter ref" => ((with_reducible show wpAny _ _ (pyIter (Value.ref _)) (fun it s₂ => LoopAtV _ _ _ _ _ _ [PySem.Stmt.Assign _ _ _, PySem.Stmt.Expr _ _] _ _ it s₂) _ _); k_dat (fun (pre : List Int) stg => (∀ d ∈ stg, Mine.IsTup d) ∧ stg.length ≤ pre.length) "store.staged*")
  k_with "pyIter ref" => ((with_reducible show wpAny _ (Around.deeper _ (envOf (Str.ofString "Vault.stage") _ _ _ _)) (pyIter (Value.ref _)) _ _ _); k_dat (fun (_ : List Int) (b : Bool) => b = false) "self.dead"; (all_goals (try subst kInv)))
  k_with "state" => first | exact Mine.St0 | (with_reducible exact Mine.St1 (by assumption) (by assumption)) | (with_reducible exact Mine.St1 (by assumption) (Mine.C_pad (by assumption) (by assumption))) | (with_reducible exact Mine.St1 (by assumption) (Mine.C_nil (by assumption) (by assumption) (by assumption))) | exact Mine.mp_start | exact Mine.mp_skip (by assumption) (by assumption) | exact Mine.mp_put (by assumption) (by assumption) (by first | assumption | rfl) (by assumption) | exact Mine.mp_add1 (by assumption) (by assumption) (by first | assumption | rfl) | exact Mine.mp_add2 (by assumption) (by assumption) (by assumption) | exact Mine.com_start | exact True.intro | exact rfl | assumption | exact Mine.tab_start | exact Mine.stg_start | exact Mine.stg_app (by assumption) (by assumption) rfl | exact Mine.stg_set (by assumption) (by assumption) (by assumption) | exact Mine.stg_set1 (by assumption) (by assumption) (by assumption) | exact Mine.tab_st0 (by assumption) | exact Mine.tab_st1 (by assumption)
  k_with "call type:range cons nil" => (k_here; (with_reducible show wpAny _ (Around.deeper _ (envOf (Str.ofString "Vault.pairs") _ _ _ _)) (call (Value.type _) [Value.int _ _]) _ _ _); (rename Fr _ _ _ _ => F'); (rename News _ _ _ _ => N'); (with_unfolding_all refine range1_rows F' N' ?_; intro _ _ _ _ _ _ _ _ _))
  k_with "pyIter ref" => ((with_reducible show wpAny _ (Around.deeper _ (envOf (Str.ofString "Vault.pairs") _ _ _ _)) (pyIter (Value.ref _)) _ _ _); (rename Fr _ _ _ _ => lF'); (rename News _ _ _ _ => lN'); (rename IsRange _ _ _ _ _ _ _ _ => rgX); k_dflt ((refine' Mine.pairs_rule ns9 [Str.ofString "seen"] ?hhP ?hrP ?smP ?szP ?FP ?NP ?hoP ?hmP ?turnP ?doneP); ((case hhP => with_unfolding_all rfl)); ((case hrP => exact rgX)); ((case smP => exact small_one (by omega) (by omega) (by omega) (by omega))); ((case szP => exact rangeSize_nat _ _)); ((case FP => exact lF')); ((case NP => exact lN')); ((case hoP => with_unfolding_all rfl)); ((case hmP => k_memK))); (clear lF' lN'); (case' turnP => (intro a9 vs9 nn9 tl9 pre9 k9 t9 u7 h9 tk9 own9 kEq kLt kSep kO4 hm9 dat9 F9 N9; (simp only [kstB, List.contains_cons, List.contains_nil, Bool.or_false, beq_iff_eq] at F9); (try simp only [List.cons_append, List.nil_append, List.append_assoc] at N9))); (case' doneP => (intro a9 vs9 nn9 tl9 u7 h9 tk9 kO3 dat9 F9 N9; (simp only [kstB, List.contains_cons, List.contains_nil, Bool.or_false, beq_iff_eq] at F9); (try simp only [List.cons_append, List.nil_append, List.append_assoc] at N9))); (all_goals (try k_fold)))
  k_with "subscriptTail Attribute Name" => (k_here; (with_reducible show wpAny _ (Around.deeper _ (envOf (Str.ofString "Disk.read") _ _ _ _)) (subscriptTail _ _ (Value.ref _) (Value.int _ _)) _ _ _); k_dflt ((refine' Mine.row_item ?k1 ?k2 ?k3 ?k4 ?k5 ?k6 ?k7 ?_ ?k8); ((case k1 => k_asm)); ((case k2 => k_memK)); ((case k3 => assumption)); ((case k4 => assumption)); ((case k5 => omega)); ((case k6 => omega)); ((case k7 => omega)); ((case k8 => with_unfolding_all rfl))); intro a' vs' n' r' m1' I' len' get'; (have k9lo : 0 ≤ k9 := by omega); (have k9hi : k9 < 3 := by omega); (have hid9 := Mine.row_is aft9 rGlo k9lo (by omega) get'); (clear get'))
  k_with "compareOp NotEq int int" => (k_here; (with_reducible show wpAny _ (Around.deeper _ (envOf (Str.ofString "seal_holds") _ _ _ _)) (compareOp CmpOp.NotEq (Value.int _ _) (Value.int _ _)) _ _ _); (with_reducible refine Mine.ne_no (Mine.C_len (by assumption)) ?_))
  k_with "compareOp Lt int int" => (k_here; (with_reducible show wpAny _ (Around.deeper _ (envOf (Str.ofString "seal_holds") _ _ _ _)) (compareOp CmpOp.Lt (Value.int _ _) (Value.int _ _)) _ _ _); (with_reducible refine Mine.lt_no (Mine.C_lo (by assumption) k9lo k9hi (by assumption)) ?_))
  k_with "compareOp Gt int int" => (k_here; (with_reducible show wpAny _ (Around.deeper _ (envOf (Str.ofString "seal_holds") _ _ _ _)) (compareOp CmpOp.Gt (Value.int _ _) (Value.int _ _)) _ _ _); (with_reducible refine Mine.gt_no (Mine.C_hi (by assumption) k9lo k9hi (by assumption)) ?_))
  k_with "compareOp Eq int int" => (k_here; (with_reducible show wpAny _ (Around.deeper _ (envOf (Str.ofString "seal_holds") _ _ _ _)) (compareOp CmpOp.Eq (Value.int _ _) (Value.int _ _)) _ _ _); (with_reducible refine Mine.eq_yes (Mine.C_seal (by assumption)) ?_))
  k_with "compareOp Eq int int" => (k_here; (with_reducible show wpAny _ (Around.deeper _ (envOf (Str.ofString "decode_slot") _ _ _ _)) (compareOp CmpOp.Eq (Value.int (List.getD _ _ _) _) (Value.int _ _)) _ _ _); first | (with_reducible refine Mine.eq_yes (Mine.C_f0 (by assumption) (by assumption)) ?_) | (with_reducible refine Mine.eq_yes (Mine.C_f1 (by assumption) (by assumption)) ?_) | (with_reducible refine Mine.eq_no (Mine.C_g0 (by assumption) (by assumption)) ?_) | (with_reducible refine Mine.eq_no (Mine.C_g1 (by assumption) (by assumption)) ?_))
  k_with "compareOp NotEq int int" => (k_here; (with_reducible show wpAny _ (Around.deeper _ (envOf (Str.ofString "decode_slot") _ _ _ _)) (compareOp CmpOp.NotEq (Value.int _ _) (Value.int _ _)) _ _ _); first | (with_reducible refine Mine.ne_no (Mine.C_f0 (by assumption) (by assumption)) ?_) | (with_reducible refine Mine.ne_no (Mine.C_f1 (by assumption) (by assumption)) ?_) | (with_reducible refine Mine.ne_yes (Mine.C_g0 (by assumption) (by assumption)) ?_) | (with_reducible refine Mine.ne_yes (Mine.C_g1 (by assumption) (by assumption)) ?_) | (with_reducible refine Mine.ne_no (Mine.C_pad (by assumption) (by assumption)) ?_) | (with_reducible refine Mine.ne_no (Mine.C_nil (by assumption) (by assumption) (by assumption)) ?_))
  k_with "execs cons If cons" => (k_here; (with_reducible show wpAny _ (Around.deeper _ (envOf (Str.ofString "decode_slot") _ _ _ _)) (execs (PySem.Stmt.If (PySem.Expr.BoolOp _ _ _) _ _ _ :: _ :: _) _) _ _ _); (by_cases hc9 : Int.fmod (Mine.cI ns9 k9) 3 = 0); (all_goals ((with_reducible refine wpAny_execs_cons ?_); (try dsimp only))))
  k_with "pyIter ref" => ((with_reducible show wpAny _ (Around.deeper _ (envOf (Str.ofString "seal_holds") _ _ _ _)) (pyIter (Value.ref _)) _ _ _); k_search (fun _ => True))
  k_with "pyIter ref" => ((with_reducible show wpAny _ (Around.deeper _ (envOf (Str.ofString "decode_slot") _ _ _ _)) (pyIter (Value.ref _)) _ _ _); k_search (fun pre => ∀ v ∈ pre, v = 0))
  k_with "exec For Name Subscript cons nil" => (k_here; (rename Fr _ _ _ _ => lF'); (with_unfolding_all refine' For_invVF lF' ?k1 ?k2 ?_; (case k1 => exact rfl); (case k2 => exact rfl); k_whole))
  k_with "InvEndN" => (k_dflt ((rename News _ _ _ _ => nE8); (refine' kst_end () ?F nE8 ?kin ?kown ?kadr True.intro (List.forall_mem_nil _) ?ksm ?kp); ((case F => assumption)); ((case kadr => rfl)); ((case kin => ((try dsimp only); kcf_all))); ((case kown => kcf_all)); ((case ksm => kst_same)); ((case kp => ksr_p))))
  k_with "call ref cons nil" => (k_here; (with_reducible show wpAny _ (Around.deeper _ (envOf (Str.ofString "Vault.pairs") _ _ _ _)) _ _ _ _); (show wpAny _ _ (call (Value.ref _) [Value.ref _, Value.int _ _, Value.int _ _]) _ _ _); (refine Mine.call_gen (fun k8 v8 hk8 hv8 => ?_)); refine wpAny_call ?_; (refine' code_def ?k1 ?k2 ?k3 ?k4 ?k5 ?kA ?kF ?kK ?k6 ?k7 ?k8 ?k9 ?kB ?_ ?c2 ?c3 ?c4 ?c5; (case kA => exact rfl); (case kF => exact rfl); (case kK => exact rfl); (case k1 => k_asm); (case k2 => k_asm); (case k3 => k_asm); (case k4 => k_asm); (case k5 => k_asm); (case k6 => k_is); (case k7 => k_is); (case k8 => k_room); (case k9 => first | exact BindsTo.of_eq rfl | exact binds_K (by k_in) rfl (by k_is) rfl rfl rfl); (case c5 => decide); (case kB => exact locs rfl); (case c2 => exact rfl); (case c3 => exact rfl); (case c4 => exact rfl); k_whole; intro g' L' h' FG' F' N' B' X' T'; (try dsimp only); (try k_lift B'); (try k_fold)))
  k_with "pyIter ref" => ((with_reducible show wpAny _ (Around.deeper _ (envOf (Str.ofString "model_put") _ _ _ _)) (pyIter (Value.ref _)) _ _ _); (rename Fr _ _ _ _ => lF'); (rename News _ _ _ _ => lN'); (rename (∀ q, q ∈ _ → _ < _) => lo7); k_dflt ((refine' Mine.mp_rule (k := k8) (v := v8) ?hhM ?hlM ?hdM ?FM ?NM _ ?sKM ?oRM ?sBM ?hDM ?hoM ?hpM ?turnM ?doneM); ((case hhM => with_unfolding_all rfl)); ((case FM => exact lF')); ((case NM => exact lN')); ((case hlM => exact hm9)); ((case hdM => exact dat9)); ((case sKM => ((refine Mine.sub_sep dat9 kSep ?_); (try simp only [List.cons_append, List.nil_append, List.append_assoc]); kcf_all))); ((case oRM => first | exact fun p h => Nat.ne_of_lt (lo7 p h) | k_all)); ((case sBM => kcf_all)); ((case hDM => exact Mine.mall_due (by omega))); ((case hoM => with_unfolding_all rfl)); ((case hpM => with_unfolding_all rfl))); (case' turnM => ((clear lF' lN'); (repeat (rename (∀ q, q ∈ _ → _ < _) => z9; clear z9)); (repeat (rename OwnOff _ _ => z9; clear z9)); (repeat (rename DatAll _ _ _ => z9; clear z9)); intro R7 B7 vs7 nn7 ds7 pl7 tl7 pre7 q7 a7 t71 t72 n7 u7 h7 tk7 own7 sB7 oR7 ao7 ks7 off7 ha7 hf7 hp7 len7 F7 N7; (simp only [kstB, List.contains_nil, Bool.false_eq_true, if_false] at F7); (cases pl7))); (case' doneM => ((clear lF' lN'); intro R6 vs6 nn6 ds6 pl6 tl6 u6 h6 tk6 sK6 off6 oR6 dat6 g61 g62 len6 F6 N6; (simp only [kstB, List.contains_nil, Bool.false_eq_true, if_false] at F6); (cases pl6))); (all_goals (try k_fold)))
  k_with "InvEndG" => ((with_reducible show InvEndG _ _ (Mine.PSt _ _ _ _ _ _) _ _ _); k_dflt ((refine' Mine.pairs_same ?h0 ?F ?N ?hn ?ho ?hk ?hr ?hm ?hd ?hc); ((case h0 => assumption)); ((case F => k_asm)); ((case N => k_asm)); ((case hm => assumption)); ((case hd => assumption)); ((case hc => assumption)); ((case hn => kcf_all)); ((case ho => kcf_all)); ((case hk => kst_all)); ((case hr => kst_same))))
  k_with "call builtin:sorted cons nil" => (k_here; (with_reducible show wpAny _ _ (call (Value.builtin _) [Value.ref _]) _ _ _); k_dflt ((refine' Mine.sorted_due (dl := Mine.dueP ns9 (rangeKs 0 (1 + rS - 0).toNat)) ?F ?N ?hm ?hd ?sub ?h3 ?hne ?_); ((case F => k_asm)); ((case N => k_asm)); ((case hm => k_memK)); ((case hd => exact dd9)); ((case sub => kcf_all)); ((case h3 => exact Mine.dueP_len (by omega))); ((case hne => exact Mine.due_ne (by omega)))); intro D' c' h' out8 F' N' l1 dat8; (try k_sweep))
  k_with "compareOp NotEq ref ref" => (k_here; (with_reducible show wpAny _ _ (compareOp CmpOp.NotEq (Value.ref _) (Value.ref _)) _ _ _); (rename DatAll _ _ (List.map Mine.tupD (Mine.mall _)) => mk8); k_dflt ((refine' Mine.ne_dat ?N ?ma ?Da ?sa ?mb ?Db ?sb ?ha ?hu ?_); (case N => k_asm); (case ma => k_memK); (case mb => k_memK); ((case Da => assumption)); ((case ha => exact Mine.tup_ok)); ((case Db => assumption)); ((case sa => kcf_all)); ((case sb => kcf_all)); ((case hu => ke_room))))
  k_with "pyIter ref" => ((with_reducible show wpAny _ (Around.deeper _ (envOf (Str.ofString "Vault.read_slot") _ _ _ _)) (pyIter (Value.ref _)) _ _ _); (rename Fr _ _ _ _ => lF'); (rename News _ _ _ _ => lN'); k_dflt ((refine' Mine.iter_empty ?hhE ?hlE ?FE ?NE ?_); ((case hhE => with_unfolding_all rfl)); ((case FE => exact lF')); ((case NE => exact lN')); ((case hlE => k_memK))); (clear lF' lN'); intro u6 h9 tk9 F9 N9; (try k_fold))
  k_with "subscriptTail Name Constant" => (k_here; (with_reducible show wpAny _ (Around.deeper _ (envOf (Str.ofString "model_put") _ _ _ _)) (subscriptTail _ _ (Value.ref _) (Value.int 0 _)) _ _ _); k_dflt ((refine' Mine.tup_at0 ?k1 ?k2 ?k3 ?_ ?k4); (case k1 => k_asm); ((case k3 => exact fun p h _ => h)); ((case k2 => k_memK)); ((case k4 => with_unfolding_all rfl))))
  k_with "call builtin:list.append cons nil" => (k_here; (with_reducible show wpAny _ (Around.deeper _ (envOf (Str.ofString "model_put") _ _ _ _)) (call (Value.builtin _) [Value.ref _, Value.ref _]) _ _ _); k_dflt ((refine' Mine.app_ref ?k1 ?k2 ?k3 ?k4 ?_); ((case k1 => k_asm)); ((case k2 => k_asm)); ((case k3 => k_upd)); ((case k4 => first | omega | ((simp only [List.length_append, List.length_singleton]); omega)))); intro h' F' N'; (try k_sweep))
  k_with "InvEndG" => ((with_reducible show InvEndG _ _ (Mine.MSt _ _ _ _ _ _ _ _) _ _ _); first | (k_dflt ((refine' Mine.mp_e0 sB7 ks7 ?F ?N ?hk ?hr hf7 hp7 ?e1M); ((case e1M => omega)); ((case F => assumption)); ((case N => assumption)); ((case hk => kst_all)); ((case hr => kst_same)))) | (k_dflt ((refine' Mine.mp_e1 sB7 ks7 ?F ?N ?hk ?hr ha7 hf7 hp7 ?e1M ?e2M); ((case e1M => omega)); (case e2M => first | exact Or.inl rfl | exact Or.inr (by omega)); ((case F => assumption)); ((case N => assumption)); ((case hk => kst_all)); ((case hr => kst_same)))) | (k_dflt ((rename (∀ q, q ∈ _ → _ < _) => l8); (rename News _ _ _ _ => lN8); (refine' Mine.mp_e2 sB7 ks7 ?F lN8 ?hn l8 ?hk ?hr ha7 hf7 hp7 ?e1M rfl ?e3M); ((case e1M => omega)); ((case e3M => omega)); ((case F => assumption)); ((case hn => kcf_all)); ((case hk => kst_all)); ((case hr => kst_same)))))
  k_with "InvEndG" => ((with_reducible show InvEndG _ _ (Mine.PSt _ _ _ _ _ _) _ _ _); (rename ¬ Int.fmod (Mine.cI ns9 k9) 3 = 0 => hc8); (rename News _ _ _ _ => lN8); first | (k_dflt ((refine' Mine.pairs_put1 kSep ?F lN8 off6 oR6 sK6 ?hn ?hk ?hr dat6 (g61 rfl) hc8 ?e1 ?e2); ((case F => assumption)); ((case hn => kcf_all)); ((case hk => kst_all)); ((case hr => kst_same)); ((case e1 => exact Mine.key4 hid9 hc8 hk8)); ((case e2 => exact Mine.val4 hid9 hc8 hv8)))) | (k_dflt ((rename (∀ q, q ∈ _ → _ < _) => l8); (refine' Mine.pairs_put2 kSep ?F lN8 off6 oR6 sK6 l8 ?hn ?hk ?hr dat6 (g62 rfl) hc8 ?e1 ?e2); ((case F => assumption)); ((case hn => kcf_all)); ((case hk => kst_all)); ((case hr => kst_same)); ((case e1 => exact Mine.key4 hid9 hc8 hk8)); ((case e2 => exact Mine.val4 hid9 hc8 hv8)))))
  k_with "execs cons If cons" => (k_here; (with_reducible show wpAny _ (Around.deeper _ (envOf (Str.ofString "Disk.write") _ _ _ _)) (execs (PySem.Stmt.If _ _ _ _ :: _ :: _) _) _ _ _); (have hB7 := hB8); (rename News _ _ _ (_ :: _ :: _ :: _ :: _ :: _ :: _ :: _ :: _ :: _ :: _ :: _ :: (_, instObj 268 _) :: _) => lN9); (replace lN9 := Mine.keepN lN9 [true, false, false, false, false, false, false, false, false, true, true, true]); (simp only [Mine.keepL] at lN9); (rename (∀ q, q ∈ _ → _ < _) => q91'); (rename (∀ q, q ∈ ((ls9, _) :: _) → _ < _) => q92'); (revert q91' q92'); (repeat (rename (∀ q, q ∈ _ → _ < _) => z9; clear z9)); (intro q91' q92'); (with_reducible refine wpAny_execs_cons ?_); (try dsimp only))
  k_with "execs cons If cons" => (k_here; (with_reducible show wpAny _ (Around.deeper _ (envOf (Str.ofString "Disk.write") _ _ _ _)) (execs (PySem.Stmt.If _ _ _ _ :: _ :: _) _) _ _ _); (have hB7 := hB8); (rename News _ _ _ (_ :: _ :: _ :: _ :: _ :: _ :: _ :: _ :: _ :: _ :: _ :: _ :: _ :: _ :: _ :: (_, instObj 268 _) :: _) => lN9); (replace lN9 := Mine.keepN lN9 [true, false, false, false, false, false, false, false, false, false, true, false, false, true, true]); (simp only [Mine.keepL] at lN9); (rename (∀ q, q ∈ _ → _ < _) => q91'); (rename (∀ q, q ∈ (_ :: _ :: (ls9, _) :: _) → _ < _) => q92'); (revert q91' q92'); (repeat (rename (∀ q, q ∈ _ → _ < _) => z9; clear z9)); (intro q91' q92'); (with_reducible refine wpAny_execs_cons ?_); (try dsimp only))
  k_with "execs cons If nil" => (k_here; (with_reducible show wpAny _ (Around.deeper _ (envOf (Str.ofString "Disk.write") _ _ _ _)) (execs [PySem.Stmt.If _ _ _ _] _) _ _ _); (have hB7 := hB8); (fail_if_success (have mk92 := mk91)); (rename Fr _ _ _ _ => lF'); (rename News _ _ _ _ => lN'); (k_dflt ((refine Mine.cut_bud lF' lN' (by with_unfolding_all rfl) (by k_memK) (by k_updF) [_] [] ?_ ?_))); (have mk91 : True := True.intro); (refine Mine.hideF (fun P9 hP9 => ?_)); rotate_left; (clear lF' lN'; intro b9 t95 h9 tk9 F9 N9 pw9; (try dsimp only at N9)))
  k_with "MidW" => (k_dflt ((refine' Mine.MidW.mk ?k1 ?k2 ?k3 ?k4); ((case k1 => k_asm)); ((case k2 => k_asm)); ((case k3 => ((try dsimp only); kcf_all))); ((case k4 => first | exact Or.inl ⟨by omega, by first | rfl | omega⟩ | exact Or.inr ⟨by omega, by first | rfl | omega⟩))))
  k_with "call ref cons nil" => (k_here; (fail_if_success (with_reducible show wpAny _ _ _ (Mine.HQ _) _ _)); (with_reducible show wpAny _ _ (call (Value.ref _) _) _ _ _); (refine Mine.hideQ (fun P9 hP9 => ?_)))
  k_with "call ref nil" => (k_here; (fail_if_success (with_reducible show wpAny _ _ _ (Mine.HQ _) _ _)); (with_reducible show wpAny _ _ (call (Value.ref _) _) _ _ _); (refine Mine.hideQ (fun P9 hP9 => ?_)))
  k_with "execs cons Assign cons" => (k_here; (with_reducible show wpAny _ _ (execs _ _) (InvPostG _ _ _ _ _ _) _ _); (refine Mine.hideF (fun P9 hP9 => ?_)))
  k_with "execs cons If cons" => (k_here; (with_reducible show wpAny _ _ (execs _ _) (InvPostG _ _ _ _ _ _) _ _); (refine Mine.hideF (fun P9 hP9 => ?_)))
  k_with "HQ" => (with_reducible refine Mine.useHQ (by assumption) ?_)
  k_with "HF" => (with_reducible refine Mine.useHF (by assumption) ?_)
  k_with "call ref cons nil" => (k_here; (have z8 := a91); (fail_if_success (have z7 := lost9)); (with_reducible show wpAny _ (Around.deeper _ (envOf (Str.ofString "law") _ _ _ _)) _ _ _ _); (fail_if_success (with_reducible show wpAny _ _ _ (Mine.HQ _) _ _)); (show wpAny _ _ (call (Value.ref _) [Value.int _ _, Value.int _ _]) _ _ _); (rename Fr _ _ _ _ => lF'); (rename News _ _ _ _ => lN'); (k_dflt (refine' Mine.row_meet [] (fun ns => ns.length = 16) lF' lN' (List.forall_mem_nil _) ?_ ?_)); (clear lF' lN'); (repeat (rename (∀ q, q ∈ _ → _ < _) => z9; clear z9)); (repeat (rename OwnOff _ _ => z9; clear z9)); (repeat (rename DatAll _ _ _ => z9; clear z9)); (intro RX9 F9 N9); (simp only [List.nil_append] at N9); (refine Mine.hideQ (fun P9 hP9 => ?_)); rotate_left; (clear lF' lN'); (intro D9 c9 us9 ns8 h9 tk9 F9 N9 l1 I9 len9); (have len8 : ns8.length = 16 := len9); (clear len9); (try dsimp only))
  k_with "call ref cons nil" => (k_here; (with_reducible show wpAny _ (Around.deeper _ (envOf (Str.ofString "Vault.commit") _ _ _ _)) _ _ _ _); (have hB7 := hB8); (fail_if_success (with_reducible show wpAny _ _ _ (Mine.HQ _) _ _)); (show wpAny _ _ (call (Value.ref _) [Value.ref _]) _ _ _); (rename Fr _ _ _ _ => lF'); (rename News _ _ _ _ => lN'); (k_dflt ((refine' Mine.row_meet1 (fun ns => ns = List.replicate 16 0) lF' lN' ?hlR ?_ ?_); ((case hlR => k_memK)))); (clear lF' lN'); (repeat (rename (∀ q, q ∈ _ → _ < _) => z9; clear z9)); (repeat (rename OwnOff _ _ => z9; clear z9)); (repeat (rename DatAll _ _ _ => z9; clear z9)); (intro RX9 F9 N9); (refine Mine.hideQ (fun P9 hP9 => ?_)); rotate_left; (clear lF' lN'); (intro D9 c9 us9 ns8 h9 tk9 F9 N9 l1 I9 len9); (have len8 : ns8 = List.replicate 16 0 := len9); (clear len9); (subst len8); (have lenR : (List.replicate 16 (0 : Int)).length = 16 := rfl); (try dsimp only))
  k_with "call ref cons nil" => (k_here; (with_reducible show wpAny _ (Around.deeper _ (envOf (Str.ofString "Vault.commit") _ _ _ _)) _ _ _ _); (fail_if_success (have hB7 := hB8)); (fail_if_success (with_reducible show wpAny _ _ _ (Mine.HQ _) _ _)); (show wpAny _ _ (call (Value.ref _) [Value.ref _]) _ _ _); (rename Fr _ _ _ _ => lF'); (rename News _ _ _ _ => lN'); (k_dflt ((refine' Mine.row_meet1 (fun ns => ns.length = 16) lF' lN' ?hlR ?_ ?_); ((case hlR => k_memK)))); (clear lF' lN'); (repeat (rename (∀ q, q ∈ _ → _ < _) => z9; clear z9)); (repeat (rename OwnOff _ _ => z9; clear z9)); (repeat (rename DatAll _ _ _ => z9; clear z9)); (intro RX9 F9 N9); (refine Mine.hideQ (fun P9 hP9 => ?_)); rotate_left; (clear lF' lN'); (intro D9 c9 us9 ns8 h9 tk9 F9 N9 l1 I9 len9); (have len8 : ns8.length = 16 := len9); (clear len9); (try dsimp only))
  k_with "call ref cons nil" => (k_here; (with_reducible show wpAny _ (Around.deeper _ (envOf (Str.ofString "Vault.install") _ _ _ _)) _ _ _ _); (have hB7 := hB8); (fail_if_success (with_reducible show wpAny _ _ _ (Mine.HQ _) _ _)); (show wpAny _ _ (call (Value.ref _) [Value.ref _]) _ _ _); (rename Fr _ _ _ _ => lF'); (rename News _ _ _ _ => lN'); (k_dflt ((refine' Mine.row_meet1 (fun ns => ns = List.replicate 16 0) lF' lN' ?hlR ?_ ?_); ((case hlR => k_memK)))); (clear lF' lN'); (repeat (rename (∀ q, q ∈ _ → _ < _) => z9; clear z9)); (repeat (rename OwnOff _ _ => z9; clear z9)); (repeat (rename DatAll _ _ _ => z9; clear z9)); (intro RX9 F9 N9); (refine Mine.hideQ (fun P9 hP9 => ?_)); rotate_left; (clear lF' lN'); (intro D9 c9 us9 ns8 h9 tk9 F9 N9 l1 I9 len9); (have len8 : ns8 = List.replicate 16 0 := len9); (clear len9); (subst len8); (have lenR : (List.replicate 16 (0 : Int)).length = 16 := rfl); (try dsimp only))
  k_with "call ref cons nil" => (k_here; (with_reducible show wpAny _ (Around.deeper _ (envOf (Str.ofString "Vault.install") _ _ _ _)) _ _ _ _); (fail_if_success (have hB7 := hB8)); (fail_if_success (with_reducible show wpAny _ _ _ (Mine.HQ _) _ _)); (show wpAny _ _ (call (Value.ref _) [Value.ref _]) _ _ _); (rename Fr _ _ _ _ => lF'); (rename News _ _ _ _ => lN'); (k_dflt ((refine' Mine.row_meet1 (fun ns => ns.length = 16) lF' lN' ?hlR ?_ ?_); ((case hlR => k_memK)))); (clear lF' lN'); (repeat (rename (∀ q, q ∈ _ → _ < _) => z9; clear z9)); (repeat (rename OwnOff _ _ => z9; clear z9)); (repeat (rename DatAll _ _ _ => z9; clear z9)); (intro RX9 F9 N9); (refine Mine.hideQ (fun P9 hP9 => ?_)); rotate_left; (clear lF' lN'); (intro D9 c9 us9 ns8 h9 tk9 F9 N9 l1 I9 len9); (have len8 : ns8.length = 16 := len9); (clear len9); (try dsimp only))
  k_with "RowMade" => (k_dflt ((rename (∀ q, q ∈ _ → _ < _) => l8); (refine' Mine.RowMade.mk ?k1 ?k2 ?k3 ?k4 l8 ?k6 ?k7 ?k8); ((case k1 => k_asm)); ((case k2 => k_asm)); ((case k3 => k_memK)); ((case k4 => kcf_all)); ((case k6 => kcf_all)); ((case k7 => l_ints)); ((case k8 => first | exact rfl | decide))))
  open_k
