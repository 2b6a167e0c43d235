import PyProof.Rows.All
import Wide.All
import OpenK.AllK
import Wide.FinOn
import Lean
import PySem.Challenge.RW_k14_0018
open PySem PySem.W PyProof.Rows
set_option Elab.async false
section
namespace Mine
section
variable {tb : String → Option Builtin} {p : Program} {w : World} {n₀ : Nat} {ann : Option Value} {env : Env} {q : Pos}
theorem piece_all {n N : Nat} {s s' r : Shared} {l : List Stmt} {c c' : Code} {pos p' : Pos} (h : segRun tb p w n₀ ann 1 n s (piecesOf l env c pos [topFrame q]) = some (.next, s', c', p'))
    (k : topRun tb p w n₀ ann N s' ⟨doneF .next, c', p', [topFrame q]⟩ = some r) : topRun tb p w n₀ ann (n + N) s (restOf l env c pos [topFrame q]) = some r := by
  obtain ⟨a, ha, hN⟩ := seg_top (res := id) (K' := fun f => match f with | .next => (execs [] env).wrap doneF (leaveH env) id id | f => doneF f) (H' := leaveH env) (B := [topFrame q]) rfl n s (piecesOf l env c pos [topFrame q])
    ⟨(execs l env).wrap (fun f => match f with | .next => (execs [] env).wrap doneF (leaveH env) id id | f => doneF f) (leaveH env) id id, c, pos, [topFrame q]⟩ _ _ _ _ ⟨rfl, rfl, .inl ⟨rfl, rfl, _, rfl, rfl⟩⟩ h
  obtain rfl : a = .next := ha
  have := hN N r k
  have e := execs_app_wrap (env := env) l [] doneF (leaveH env) id id
  rw [List.append_nil] at e
  unfold restOf
  rw [e]
  exact this
end
def tObj : Obj := { cls := .type "tuple", data := .seq #[] }
def fObj : Obj := { cls := .none, data := .fields #[] }
def cObj : Obj := { cls := .type "code", data := .fields #[.str (Str.ofString "<module>") 182, .str (Str.ofString "<module>") 183, .str (Str.ofString "/claim/cut.py") 184, .int 1 0, .int 0 0, .int 0 0, .int 0 0, .int 0 0, .ref 11, .bool false, .int 181 0, .ref 12, .none, .none, .none, .none, .int 185 0, .int 1 0, .str (Str.ofString "/claim/cut.py") 186] }
def frObj : Obj := { cls := .type "frame", slots := #[some (.ref 13), some (.ref 3), some (.ref 3), none, some (.str (Str.ofString "__main__") 164), none, some (.ref 0)] }
noncomputable def tree0 (P : Params) : BT :=
  .node (boot_o_0 P)
    (.node (boot_o_1 P) (.node (boot_o_3 P) (.node (boot_o_7 P) .nil .nil) (.node tObj .nil .nil)) (.node (boot_o_5 P) (.node (boot_o_9 P) .nil .nil) (.node cObj .nil .nil)))
    (.node (boot_o_2 P) (.node (boot_o_4 P) (.node (boot_o_8 P) .nil .nil) (.node fObj .nil .nil)) (.node (boot_o_6 P) (.node (boot_o_10 P) .nil .nil) (.node frObj .nil .nil)))
/-- behind the making of the module's frame -/
noncomputable def st0 (w : World) (os : OsState) : SharedT := ⟨tree0 w.params, 15, {}, Array.mk [], {}, 187, os⟩
def pos0 : Pos := { line := 0, col := 0, endLine := 0, endCol := 0 }
def env0 (p : Program) : Env := { scope := p.main.scope, locals := mainNs, globals := mainNs, cells := [], code := .ref 13, frame := some 14 }
def code0 (p : Program) : Code := .body (behindTheImports p) (env0 p)
/-- the top of a plain text, run at once behind the library's boot, on trees, by the library's quick twins -/
theorem left_tree {p q : Program} {loose : List Str} {Xt : Shared → Bool} {α : Type} {Yf : Shared → α} {Ya : World → α} {N : Nat} (N1 : Nat) (e : opening p = plainProg p.main.scope.names) (hN : Nat.ble 600 N = true) (f : ∀ s, fenceModules? p s = some s) (le : Nat.ble (12 + (1 + (N1 + 2))) N = true)
    (pre : ∀ (w : World) (os : OsState), topGo treeTable p w 11 (some (Value.ref 6)) 12 ⟨boot_heap w.params, Array.mk [], boot_drawn, boot_toks, os⟩ (topStub p) = some ((st0 w os).abs, ⟨denote treeTable (code0 p), code0 p, pos0, [topFrame pos0]⟩))
    (block : ∀ (w : World) (os : OsState), segRun treeTable p w 11 (some (Value.ref 6)) 1 1 (st0 w os).abs (blockOf (behindTheImports p) (env0 p) (code0 p) pos0 [topFrame pos0]) = some (.next, (st0 w os).abs, code0 p, pos0))
    (run : ∀ (w : World) (os : OsState), (PySem.W.Fast.tw10110043849684766642 PySem.W.Fast.tw14364793385576792824 p w 11 (some (Value.ref 6)) 1 N1 (st0 w os) (piecesOf (behindTheImports p) (env0 p) (code0 p) pos0 [topFrame pos0])).bind (fun r => match r with
      | (.next, S', c', p') => (PySem.W.Fast.tw14082659384304107361 PySem.W.Fast.tw14364793385576792824 p w 11 (some (Value.ref 6)) 2 S'.abs ⟨doneF .next, c', p', [topFrame pos0]⟩).bind (fun s₁ =>
        match staticsOk (PySem.W.Fast.tw5923862056798008813 p.main.body) (boot_heap w.params) s₁.heap && namesBound p s₁.heap && gensDone s₁ && laidKept (boot_heap w.params) s₁.heap with
        | true => some (PySem.W.Fast.tw4187177175401517315 q loose (PySem.W.Fast.tw5923862056798008813 p.main.body) Xt true s₁, Yf s₁)
        | false => none)
      | _ => none) = some (openGood q loose, Ya w)) : LeftO p q loose Xt Yf Ya N := fun w => by
  rw [← PySem.W.Fast.te14082659384304107361, ← PySem.W.Fast.te14364793385576792824, ← PySem.W.Fast.te4187177175401517315, ← PySem.W.Fast.te5923862056798008813, ← PySem.W.Fast.te10110043849684766642] at run
  obtain ⟨⟨h, gs, d, k, os⟩, e0, e'⟩ := Option.map_eq_some_iff.mp (boot_open e hN f w)
  obtain ⟨rfl, rfl, rfl, rfl⟩ : h = boot_heap w.params ∧ gs = Array.mk [] ∧ d = boot_drawn ∧ k = boot_toks := by simpa using e'
  have z1 : ((boot_heap w.params).isNs mainGlobals && (Array.mk ([] : List GenState)).size == 0) = true := by kernel_rfl
  have z2 : (boot_heap w.params).objs.size = 11 := by kernel_rfl
  have z3 : (boot_heap w.params).nsMap mainGlobals "__annotations__" = some (Value.ref 6) := by kernel_rfl
  obtain ⟨⟨fl, S', c', p'⟩, r0, r'⟩ := Option.bind_eq_some_iff.mp (run w os)
  cases fl <;> try (cases r'; done)
  obtain ⟨s₁, r1, r2⟩ := Option.bind_eq_some_iff.mp r'
  have t1 := go_top (pre w os) (piece_block (block w os) (piece_all (segRun_of r0) r1))
  have t2 := topRun_mono (N - (12 + (1 + (N1 + 2)))) _ _ _ _ t1
  rw [show 12 + (1 + (N1 + 2)) + (N - (12 + (1 + (N1 + 2)))) = N by have := Nat.le_of_ble_eq_true le; omega] at t2
  unfold openEnds
  rw [e0]
  show ((topFrom treeTable p w N _).map _) = _
  unfold topFrom
  dsimp only
  rw [z1, z2, z3, t2]
  show ((match staticsOk (importedModules p.main.body) (boot_heap w.params) s₁.heap && namesBound p s₁.heap && gensDone s₁ && laidKept (boot_heap w.params) s₁.heap with | true => some s₁ | false => none).map _) = _
  cases hb : (staticsOk (importedModules p.main.body) (boot_heap w.params) s₁.heap && namesBound p s₁.heap && gensDone s₁ && laidKept (boot_heap w.params) s₁.heap) with
  | false => rw [hb] at r2; cases r2
  | true => rw [hb] at r2; exact r2
end Mine
end
section
namespace Mine
theorem app_wp {M : Model} {Γ : Ctx} {env : Env} {b : List Stmt} {Q : Flow → Pos → Shared → Prop} {E : Value → Pos → Shared → Prop} :
    ∀ (a : List Stmt) (p : Pos) (s : Shared), Sem.wp M Γ (execs a env) (fun f p' s' => match f with | .next => Sem.wp M Γ (execs b env) Q E p' s' | f => Q f p' s') E p s →
      Sem.wp M Γ (execs (a ++ b) env) Q E p s
  | [], p, s, h => h
  | st :: a, p, s, h => by
    rw [List.cons_append, execs_cons, Sem.wp_bind']
    rw [execs_cons, Sem.wp_bind'] at h
    refine Sem.wp_mono M Γ _ (fun f p' s' h' => ?_) (fun _ _ _ h' => h') _ _ h
    cases f <;> first | exact app_wp a p' s' h' | exact h'
theorem cut_at {M : Model} {A : Around} {E : Value → Shared → Prop} {s : Shared} {env : Env} {Q : Flow → Shared → Prop} (Mid : Shared → Prop) (a b : List Stmt)
    (h1 : wpAny M A (execs a env) (fun f s' => match f with | .next => Mid s' | f => Q f s') E s)
    (h2 : ∀ s', Mid s' → wpAny M A (execs b env) Q E s') : wpAny M A (execs (a ++ b) env) Q E s := fun Γ p hΓ => by
  refine app_wp a p s (Sem.wp_mono M Γ _ (fun f p' s' h' => ?_) (fun _ _ _ h' => h') _ _ (h1 Γ p hΓ))
  cases f <;> first | exact h2 _ h' Γ p' hΓ | exact h'
end Mine
end
section
namespace Mine
/-- where ways meet: some names of the frame and the ledger by letters -/
def MidS {σ : Type} (h₀ : Heap) (L : Addr) (m : Str → Option Value) (x : Str) (stored : List Str) (ps : σ → List (Str × Value)) (Led : σ → List (Addr × Obj)) (P : σ → Prop) (s s' : Shared) : Prop :=
  ∃ (c : σ) (h : Heap) (tk : Nat) (u : Str → Option Value), s' = { s with heap := h, toks := tk } ∧ Fr h₀ L h (fun y => if y = x then u y else kstB (fun z => if stored.contains z then u z else m z) (ps c) y) ∧ News h₀ L h (Led c) ∧ P c
section
variable {σ : Type} {prog : Program} {w : World} {A : Around} {E : Value → Shared → Prop} {s : Shared} {env : Env} {Q : Flow → Shared → Prop} {h₀ : Heap} {L : Addr} {m m' : Str → Option Value} {x : Str} {stored : List Str} {ps : σ → List (Str × Value)} {Led : σ → List (Addr × Obj)} {P : σ → Prop} {all : List (Addr × Obj)}
theorem MidS.mk (c : σ) {h' : Heap} {tk : Nat} (F : Fr h₀ L h' m') (N : News h₀ L h' all) (hk : ∀ p ∈ ps c, m' p.1 = some p.2) (hr : ∀ z, z ≠ x → (∀ p ∈ ps c, z ≠ p.1) → stored.contains z = false → m' z = m z) (sub : ∀ p ∈ Led c, p ∈ all) (hp : P c) :
    MidS h₀ L m x stored ps Led P s { s with heap := h', toks := tk } := ⟨c, h', tk, m', rfl, kst_frOut hk hr F, fun p hq => N p (sub p hq), hp⟩
theorem cut_mid (x : Str) (stored : List Str) (ps : σ → List (Str × Value)) (Led : σ → List (Addr × Obj)) (P : σ → Prop) (_F : Fr h₀ L s.heap m) (a b : List Stmt)
    (h1 : wpAny (model prog w) A (execs a env) (fun f s' => match f with | .next => MidS h₀ L m x stored ps Led P s s' | f => Q f s') E s)
    (h2 : ∀ (c : σ) (h : Heap) (tk : Nat) (u : Str → Option Value), Fr h₀ L h (fun y => if y = x then u y else kstB (fun z => if stored.contains z then u z else m z) (ps c) y) → News h₀ L h (Led c) → P c → wpAny (model prog w) A (execs b env) Q E { s with heap := h, toks := tk }) :
    wpAny (model prog w) A (execs (a ++ b) env) Q E s :=
  cut_at (MidS h₀ L m x stored ps Led P s) a b h1 (by
    rintro s' ⟨c, h, tk, u, rfl, F', N', hp⟩
    exact h2 c h tk u F' N' hp)
end
section
variable {σ : Type} {prog : Program} {w : World} {A : Around} {E : Value → Shared → Prop} {s : Shared} {env : Env} {Q : Flow → Shared → Prop} {h₀ : Heap} {L : Addr} {m : Str → Option Value} {news : List (Addr × Obj)}
/-- the same ledger, some names by letters -/
theorem cut_names (x : Str) (stored : List Str) (ps : σ → List (Str × Value)) (P : σ → Prop) (F : Fr h₀ L s.heap m) (_N : News h₀ L s.heap news) (a b : List Stmt)
    (h1 : wpAny (model prog w) A (execs a env) (fun f s' => match f with | .next => MidS h₀ L m x stored ps (fun _ => news) P s s' | f => Q f s') E s)
    (h2 : ∀ (c : σ) (h : Heap) (tk : Nat) (u : Str → Option Value), Fr h₀ L h (fun y => if y = x then u y else kstB (fun z => if stored.contains z then u z else m z) (ps c) y) → News h₀ L h news → P c → wpAny (model prog w) A (execs b env) Q E { s with heap := h, toks := tk }) :
    wpAny (model prog w) A (execs (a ++ b) env) Q E s := cut_mid x stored ps (fun _ => news) P F a b h1 h2
end
def keepL {α : Type} : List Bool → List α → List α
  | [], l => l
  | _ :: _, [] => []
  | true :: bs, x :: l => x :: keepL bs l
  | false :: bs, _ :: l => keepL bs l
theorem keepL_sub {α : Type} : ∀ (bs : List Bool) (l : List α), ∀ p ∈ keepL bs l, p ∈ l
  | [], _, _, h => h
  | _ :: _, [], _, h => nomatch h
  | true :: bs, x :: l, p, h => by
    rcases List.mem_cons.mp h with rfl | h
    · exact List.mem_cons_self
    · exact List.mem_cons_of_mem _ (keepL_sub bs l p h)
  | false :: bs, _ :: l, p, h => List.mem_cons_of_mem _ (keepL_sub bs l p h)
theorem keepN {h₀ h : Heap} {L : Addr} {news : List (Addr × Obj)} (N : News h₀ L h news) (bs : List Bool) : News h₀ L h (keepL bs news) := fun p hp => N p (keepL_sub bs news p hp)
end Mine
end
section
namespace Mine
def IsRow (d : Dat) : Prop := ∃ r : List Int, d = Dat.list (r.map Dat.int) ∧ r.length = 16
inductive All2 {α β : Type} (R : α → β → Prop) : List α → List β → Prop
  | nil : All2 R [] []
  | cons {a b as bs} : R a b → All2 R as bs → All2 R (a :: as) (b :: bs)
theorem All2.length {α β : Type} {R : α → β → Prop} : ∀ {as : List α} {bs : List β}, All2 R as bs → as.length = bs.length
  | _, _, .nil => rfl
  | _, _, .cons _ r => by rw [List.length_cons, List.length_cons, r.length]
theorem All2.snoc {α β : Type} {R : α → β → Prop} {a : α} {b : β} : ∀ {as : List α} {bs : List β}, All2 R as bs → R a b → All2 R (as ++ [a]) (bs ++ [b])
  | _, _, .nil, h => .cons h .nil
  | _, _, .cons x r, h => .cons x (r.snoc h)
theorem All2.same {α : Type} : ∀ {as bs : List α}, All2 (fun a b => b = a) as bs → bs = as
  | _, _, .nil => rfl
  | _, _, .cons x r => by rw [x, r.same]
theorem All2.right {α β : Type} {R : β → Prop} : ∀ {as : List α} {bs : List β}, All2 (fun _ b => R b) as bs → ∀ b ∈ bs, R b
  | _, _, .nil, _, h => nomatch h
  | _, _, .cons x r, b, h => by
    rcases List.mem_cons.mp h with rfl | h
    · exact x
    · exact r.right b h
theorem ints_dat {news : List (Addr × Obj)} : ∀ {vs : List Value} {ns : List Int}, IntsAre vs ns → DatAll news vs (ns.map Dat.int)
  | _, _, .nil => .nil
  | _, _, .cons n t h => .cons (.int n t) (ints_dat h)
theorem dat_ints {news : List (Addr × Obj)} : ∀ {ns : List Int} {vs : List Value}, DatAll news vs (ns.map Dat.int) → IntsAre vs ns
  | [], _, h => by cases h; exact .nil
  | n :: ns, _, h => by
    cases h with
    | cons a r => cases a with | int _ t => exact .cons n t (dat_ints r)
theorem row_in {news : List (Addr × Obj)} {v : Value} {d : Dat} (h : DatIn news v d) (hr : IsRow d) : ∃ a us n ns, v = .ref a ∧ (a, listOf us.toArray n) ∈ news ∧ IntsAre us ns ∧ d = Dat.list (ns.map Dat.int) ∧ ns.length = 16 := by
  obtain ⟨r, rfl, hl⟩ := hr
  cases h with
  | list hm ha => exact ⟨_, _, _, r, rfl, hm, dat_ints ha, rfl, hl⟩
def RowEnd (expl tl0 tl : List (Addr × Obj)) (R : Dat → Prop) (y : Value) (nx : List (Addr × Obj)) : Prop := ∃ add d, nx = expl ++ (tl0 ++ (add ++ tl)) ∧ OwnOff add (expl.map (·.1)) ∧ DatIn (tl0 ++ (add ++ tl)) y d ∧ R d
theorem off1_own {D : Addr} {expl TL : List (Addr × Obj)} (h : LCg.Off1 D (expl ++ TL)) : OwnOff TL [D] := by
  have key : ∀ l : List (Addr × Obj), LCg.Off1 D l → ∀ p ∈ l, p.1 ≠ D := by
    intro l
    induction l with
    | nil => intro _ p hp; exact nomatch hp
    | cons q r ih =>
      intro h p hp
      rcases List.mem_cons.mp hp with rfl | hp
      · exact h.1
      · exact ih h.2 p hp
  intro p hp b hb
  rw [List.mem_singleton.mp hb]
  exact key _ h p (List.mem_append.mpr (.inr hp))
theorem DatAll.setD {news : List (Addr × Obj)} {v : Value} {d : Dat} (hv : DatIn news v d) : ∀ {vs : List Value} {ds : List Dat}, DatAll news vs ds → ∀ j : Nat, DatAll news (vs.set j v) (ds.set j d)
  | _, _, .nil, _ => .nil
  | _, _, .cons _ r, 0 => .cons hv r
  | _, _, .cons h r, j + 1 => .cons h (DatAll.setD hv r j)
section
variable {prog : Program} {w : World} {A : Around} {E : Value → Shared → Prop} {s : Shared} {h₀ : Heap} {L D : Addr} {m : Str → Option Value} {news news' : List (Addr × Obj)} {vs : List Value} {n : Nat} {k : Int} {t : Tok} {v : Value}
theorem mod_any {a c : Int} {t u : Tok} {Q : Value → Shared → Prop} (hc : 0 < c) (h : ∀ r : Int, 0 ≤ r → r < c → Q (.int r s.toks) { s with toks := s.toks + 1 }) : wpAny (model prog w) A (binaryOp .Mod (.int a t) (.int c u)) Q E s :=
  mod_int' (Int.ne_of_gt hc) (h _ (Int.fmod_nonneg_of_pos _ hc) (Int.fmod_lt_of_pos _ hc))
theorem copy_row {src : List (Addr × Obj)} {a : Addr} {us : List Value} {ns : List Int} {nn : Nat} {Q : Value → Shared → Prop} (F : Fr h₀ L s.heap m) (N : News h₀ L s.heap news) (hm : (a, listOf us.toArray nn) ∈ src) (sub : ∀ p ∈ src, p ∈ news) (hI : IntsAre us ns) (hl : ns.length = 16)
    (h : ∀ D c h', Fr h₀ L h' m → News h₀ L h' ((D, listOf us.toArray c) :: news) → (∀ q ∈ news, q.1 < D) → Q (.ref D) { s with heap := h' }) : wpAny (model prog w) A (call (.type "list") [.ref a]) Q E s :=
  list_copyK F N (N.isList (sub _ hm)) h (by rw [List.size_toArray, hI.length, hl, sizeLine_eq]; decide)
/-- a store at an open place of a list of anything -/
theorem set_any {Q : Unit → Shared → Prop} (F : Fr h₀ L s.heap m) (N : News h₀ L s.heap news) (U : Upd D (listOf vs.toArray n) (listOf (vs.set k.toNat v).toArray n) news news') (h0 : 0 ≤ k) (h1 : k < vs.length) (hfit : k < 2 ^ 63)
    (h : ∀ h', Fr h₀ L h' m → News h₀ L h' news' → Q () { s with heap := h' }) :
    wpAny (model prog w) A (setItem (.ref D) (.int k t) v) Q E s := by
  obtain ⟨pre, post, rfl, rfl, a, b⟩ := U.split
  have z := N (D, listOf vs.toArray n) (List.mem_append.mpr (.inr (.head _)))
  have hs : vs.toArray.size = vs.length := List.size_toArray ..
  refine ki_setAt z.1 h0 hfit (by omega) (h _ (F.change (Heap.SameBut.update ..) z.2.1 z.2.2) (ki_turn _ N a b ?_ ?_))
  · show vs.toArray.setIfInBounds k.toNat v = (vs.set k.toNat v).toArray
    apply Array.toList_inj.mp
    simp
  · simp
end
section
variable {prog : Program} {w : World} {A : Around} {h₀ : Heap} {L : Addr} {m : Str → Option Value} {env : Env} {elt : PySem.Expr} {x : Str} {scope : Scope} {cl : List (Str × Addr)} {s : Shared} {S : List (Addr × Obj) → Prop} {P : Nat → Value → Prop} {Fin : List Value → List (Addr × Obj) → Prop} {news : List (Addr × Obj)}
theorem compRows {τ : Type} {n : Nat} {ks : List τ} (It : τ → Value → Prop) (R : τ → Dat → Prop) {expl tl0 : List (Addr × Obj)} (hks : ks.length = n) (hP : ∀ i v, i < n → P i v → ∃ k, ks[i]? = some k ∧ It k v) (h0 : OwnOff tl0 (expl.map (·.1)))
    (turn : ∀ k v I oI C oC D m₂ ys tl h tk (E' : Value → Shared → Prop), k ∈ ks → It k v → LCg.NsObj oC m₂ → m₂ x = some v → Fr h₀ L h m →
      News h₀ L h ((I, oI) :: (C, oC) :: (D, LCg.lst ys) :: (expl ++ (tl0 ++ tl))) → LCg.Off3 I C D (expl ++ (tl0 ++ tl)) → ((@Ne Nat I C) ∧ (@Ne Nat I D) ∧ (@Ne Nat C D)) → KstMark → KdMark →
      wpAny (model prog w) A (eval elt (compEnvC scope cl C env)) (LCg.CompEnd h₀ L m { s with heap := h, toks := tk } I oI C oC D (LCg.lst ys) S (RowEnd expl tl0 tl (R k))) E' { s with heap := h, toks := tk })
    (fin : ∀ ys TL ds, (∀ p ∈ tl0, p ∈ TL) → OwnOff TL (expl.map (·.1)) → DatAll TL ys ds → All2 R ks ds → KstMark → KdMark → Fin ys (expl ++ TL)) : LCg.CompRest prog w A h₀ L m env elt x scope cl s S P Fin n 0 [] (expl ++ tl0) := by
  have key : ∀ (j i : Nat) (ys : List Value) (ds : List Dat) (tl : List (Addr × Obj)), i + j = n → OwnOff tl (expl.map (·.1)) → DatAll (tl0 ++ tl) ys ds → All2 R (ks.take i) ds → LCg.CompRest prog w A h₀ L m env elt x scope cl s S P Fin j i ys (expl ++ (tl0 ++ tl)) := by
    intro j
    induction j with
    | zero =>
      intro i ys ds tl hi ho hy hr
      have e : i = ks.length := by omega
      subst e
      rw [List.take_length] at hr
      refine LCg.CompRest.zero (fin ys (tl0 ++ tl) ds (fun p hp => List.mem_append.mpr (.inl hp)) ?_ hy hr kstMark kdMark)
      intro p hp
      rcases List.mem_append.mp hp with hp | hp
      · exact h0 p hp
      · exact ho p hp
    | succ j ih =>
      intro i ys ds tl hi ho hy hr
      refine LCg.CompRest.succ ?_
      intro v I oI C oC D m₂ h tk E' hv hC hx F N off ne
      obtain ⟨k, hk, hv'⟩ := hP i v (by omega) hv
      refine wpAny_mono (turn k v I oI C oC D m₂ ys tl h tk E' (List.mem_of_getElem? hk) hv' hC hx F N off ne kstMark kdMark) (fun y s₂ hq => ?_) fun _ _ e => e
      obtain ⟨h', tk', nw, e, F', N', off', hS, add, d, hn, hoff, hd, hRd⟩ := hq
      subst hn
      refine ⟨h', tk', _, e, F', N', off', hS, ?_⟩
      refine ih (i + 1) _ (ds ++ [d]) (add ++ tl) (by omega) ?_ ?_ ?_
      · intro p hp
        rcases List.mem_append.mp hp with hp | hp
        · exact hoff p hp
        · exact ho p hp
      · refine DatAll.append (DatAll.mono (fun p hp => ?_) hy) (DatAll.one hd)
        rcases List.mem_append.mp hp with hp | hp
        · exact List.mem_append.mpr (.inl hp)
        · exact List.mem_append.mpr (.inr (List.mem_append.mpr (.inr hp)))
      · rw [List.take_add_one, hk]
        exact All2.snoc hr hRd
  have := key n 0 [] [] [] (by omega) (fun _ hp => nomatch hp) .nil .nil
  rwa [List.append_nil] at this
theorem compRange0 {n : Nat} {a : Int} {expl : List (Addr × Obj)} (R : Int → Dat → Prop)
    (turn : ∀ k t I oI C oC D m₂ ys tl h tk (E' : Value → Shared → Prop), a ≤ k → k < a + (n : Int) → LCg.NsObj oC m₂ → m₂ x = some (.int k t) → Fr h₀ L h m →
      News h₀ L h ((I, oI) :: (C, oC) :: (D, LCg.lst ys) :: (expl ++ tl)) → LCg.Off3 I C D (expl ++ tl) → ((@Ne Nat I C) ∧ (@Ne Nat I D) ∧ (@Ne Nat C D)) → KstMark → KdMark →
      wpAny (model prog w) A (eval elt (compEnvC scope cl C env)) (LCg.CompEnd h₀ L m { s with heap := h, toks := tk } I oI C oC D (LCg.lst ys) S (RowEnd expl [] tl (R k))) E' { s with heap := h, toks := tk })
    (fin : ∀ ys TL ds, OwnOff TL (expl.map (·.1)) → DatAll TL ys ds → All2 R (rangeKs a n) ds → KstMark → KdMark → Fin ys (expl ++ TL)) :
    LCg.CompRest prog w A h₀ L m env elt x scope cl s S (fun i v => ∃ t, v = .int (a + (i : Int)) t) Fin n 0 [] expl := by
  have := compRows (tl0 := []) (expl := expl) (ks := rangeKs a n) (n := n) (P := fun i v => ∃ t, v = .int (a + (i : Int)) t) (prog := prog) (w := w) (A := A) (h₀ := h₀) (L := L) (m := m) (env := env) (elt := elt) (x := x) (scope := scope) (cl := cl) (s := s) (S := S) (Fin := Fin)
    (fun k v => a ≤ k ∧ k < a + (n : Int) ∧ ∃ t, v = .int k t) R (rangeKs_length a n) (fun i v hi hv => by
      obtain ⟨t, e⟩ := hv
      exact ⟨a + (i : Int), by simp [rangeKs, hi], by omega, by omega, t, e⟩) (fun _ hp => nomatch hp)
    (fun k v I oI C oC D m₂ ys tl h tk E' hk hv hC hx F N off ne k1 k2 => by
      obtain ⟨l1, l2, t, rfl⟩ := hv
      exact turn k t I oI C oC D m₂ ys tl h tk E' l1 l2 hC hx F N off ne k1 k2)
    (fun ys TL ds _ ho hd hr k1 k2 => fin ys TL ds ho hd hr k1 k2)
  rwa [List.append_nil] at this
theorem compCopy0 {vs : List Value} {ds : List Dat} {src expl : List (Addr × Obj)} (hd : DatAll src vs ds) (hr : ∀ d ∈ ds, IsRow d)
    (turn : ∀ a us nn ns I oI C oC D m₂ ys tl h tk (E' : Value → Shared → Prop), (a, listOf us.toArray nn) ∈ src → IntsAre us ns → ns.length = 16 → LCg.NsObj oC m₂ → m₂ x = some (.ref a) → Fr h₀ L h m →
      News h₀ L h ((I, oI) :: (C, oC) :: (D, LCg.lst ys) :: (expl ++ tl)) → LCg.Off3 I C D (expl ++ tl) → ((@Ne Nat I C) ∧ (@Ne Nat I D) ∧ (@Ne Nat C D)) → KstMark → KdMark →
      wpAny (model prog w) A (eval elt (compEnvC scope cl C env)) (LCg.CompEnd h₀ L m { s with heap := h, toks := tk } I oI C oC D (LCg.lst ys) S (RowEnd expl [] tl (fun e => e = Dat.list (ns.map Dat.int)))) E' { s with heap := h, toks := tk })
    (fin : ∀ ys TL, OwnOff TL (expl.map (·.1)) → DatAll TL ys ds → KstMark → KdMark → Fin ys (expl ++ TL)) :
    LCg.CompRest prog w A h₀ L m env elt x scope cl s S (fun i v => vs.toArray[i]? = some v) Fin vs.toArray.size 0 [] expl := by
  have := compRows (tl0 := []) (expl := expl) (ks := ds) (n := vs.toArray.size) (P := fun i v => vs.toArray[i]? = some v) (prog := prog) (w := w) (A := A) (h₀ := h₀) (L := L) (m := m) (env := env) (elt := elt) (x := x) (scope := scope) (cl := cl) (s := s) (S := S) (Fin := Fin)
    (fun d v => IsRow d ∧ DatIn src v d) (fun d e => e = d) (by rw [List.size_toArray]; exact hd.length.symm) (fun i v hi hv => by
      have hi' : i < ds.length := by rw [List.size_toArray, hd.length] at hi; exact hi
      obtain ⟨v', hv', hin⟩ := hd.get hi'
      have e : v' = v := by
        have q : vs[i]? = some v := by simpa using hv
        rw [hv'] at q
        exact Option.some.inj q
      subst e
      exact ⟨ds[i], List.getElem?_eq_getElem hi', hr _ (List.getElem_mem hi'), hin⟩) (fun _ hp => nomatch hp)
    (fun d v I oI C oC D m₂ ys tl h tk E' _ hv hC hx F N off ne k1 k2 => by
      obtain ⟨a, us, nn, ns, rfl, hm, hi, rfl, hl⟩ := row_in hv.2 hv.1
      exact turn a us nn ns I oI C oC D m₂ ys tl h tk E' hm hi hl hC hx F N off ne k1 k2)
    (fun ys TL es _ ho hd' hr' k1 k2 => by
      have e := All2.same hr'
      subst e
      exact fin ys TL ho hd' k1 k2)
  rwa [List.append_nil] at this
theorem row_end {h' : Heap} {tk n : Nat} {all expl tl0 tl : List (Addr × Obj)} {s₁ : Shared} {I C D a : Addr} {oI oC oD : Obj} {vs : List Value} {ns : List Int} {R : Dat → Prop} (F : Fr h₀ L h' m) (N : News h₀ L h' all)
    (sub : ∀ p ∈ (I, oI) :: (C, oC) :: (D, oD) :: (expl ++ (tl0 ++ ((a, listOf vs.toArray n) :: tl))), p ∈ all) (off : LCg.Off3 I C D (expl ++ (tl0 ++ tl))) (ha : (@Ne Nat a I) ∧ (@Ne Nat a C) ∧ (@Ne Nat a D)) (hadr : ∀ b ∈ expl.map (·.1), b ≠ a)
    (hS : S (expl ++ (tl0 ++ ((a, listOf vs.toArray n) :: tl)))) (hi : IntsAre vs ns) (hR : R (Dat.list (ns.map Dat.int))) :
    LCg.CompEnd h₀ L m s₁ I oI C oC D oD S (RowEnd expl tl0 tl R) (.ref a) { s₁ with heap := h', toks := tk } := by
  refine LCg.CompEnd.intro F N _ sub (LCg.Off3.of fun p hp => ?_) hS ⟨[(a, listOf vs.toArray n)], _, rfl, ?_, ?_, hR⟩
  · have o := off.mem
    rcases List.mem_append.mp hp with hp | hp
    · exact o p (List.mem_append.mpr (.inl hp))
    · rcases List.mem_append.mp hp with hp | hp
      · exact o p (List.mem_append.mpr (.inr (List.mem_append.mpr (.inl hp))))
      · rcases List.mem_cons.mp hp with rfl | hp
        · exact ha
        · exact o p (List.mem_append.mpr (.inr (List.mem_append.mpr (.inr hp))))
  · intro p hp b hb
    rw [List.mem_singleton.mp hp]
    exact (hadr b hb).symm
  · exact DatIn.list (List.mem_append.mpr (.inr (List.mem_cons_self ..))) (ints_dat hi)
theorem row_end2 {h' : Heap} {tk n : Nat} {all expl tl0 tl : List (Addr × Obj)} {s₁ : Shared} {I C D a : Addr} {oI oC oD : Obj} {vs : List Value} {ns : List Int} {R : Dat → Prop} (F : Fr h₀ L h' m) (N : News h₀ L h' all)
    (sub : ∀ p ∈ (I, oI) :: (C, oC) :: (D, oD) :: (expl ++ (tl0 ++ ((a, listOf vs.toArray n) :: tl))), p ∈ all) (off : LCg.Off3 I C D (expl ++ (tl0 ++ tl))) (lt : ∀ p ∈ (I, oI) :: (C, oC) :: (D, oD) :: (expl ++ (tl0 ++ tl)), p.1 < a)
    (hS : S (expl ++ (tl0 ++ ((a, listOf vs.toArray n) :: tl)))) (hi : IntsAre vs ns) (hR : R (Dat.list (ns.map Dat.int))) :
    LCg.CompEnd h₀ L m s₁ I oI C oC D oD S (RowEnd expl tl0 tl R) (.ref a) { s₁ with heap := h', toks := tk } := by
  refine row_end F N sub off ⟨?_, ?_, ?_⟩ ?_ hS hi hR
  · exact Ne.symm (Nat.ne_of_lt (lt (I, oI) List.mem_cons_self))
  · exact Ne.symm (Nat.ne_of_lt (lt (C, oC) (List.mem_cons_of_mem _ List.mem_cons_self)))
  · exact Ne.symm (Nat.ne_of_lt (lt (D, oD) (List.mem_cons_of_mem _ (List.mem_cons_of_mem _ List.mem_cons_self))))
  · intro b hb
    obtain ⟨p, hp, rfl⟩ := List.mem_map.mp hb
    exact Nat.ne_of_lt (lt p (List.mem_cons_of_mem _ (List.mem_cons_of_mem _ (List.mem_cons_of_mem _ (List.mem_append.mpr (.inl hp))))))
end
abbrev zrow : Dat := Dat.list ((List.replicate 16 (0 : Int)).map Dat.int)
def zf (pre : List Int) (ds : List Dat) : List Dat := pre.foldl (fun M p => M.set p.toNat zrow) ds
theorem zf_start (ds : List Dat) : ds = zf [] ds := rfl
theorem zf_step (pre : List Int) (p : Int) (ds : List Dat) : (zf pre ds).set p.toNat zrow = zf (pre ++ [p]) ds := by simp [zf]
theorem zf_len (pre : List Int) (ds : List Dat) : (zf pre ds).length = ds.length := by
  induction pre generalizing ds with
  | nil => rfl
  | cons p r ih => show (zf r (ds.set p.toNat zrow)).length = _; rw [ih, List.length_set]
theorem place_in {n : Nat} {S G kN : Int} (h : kN ∈ List.take n ([0] ++ List.map (fun k' => 1 + G + k') (rangeKs 0 (S - 0).toNat))) (hS : 0 ≤ S) (hG : 0 ≤ G) : 0 ≤ kN ∧ kN < 1 + G + S := by
  rcases List.mem_append.mp (List.mem_of_mem_take h) with h | h
  · have := List.mem_singleton.mp h
    omega
  · obtain ⟨k, hk, e⟩ := List.mem_map.mp h
    have q := mem_rangeKs hk
    omega
section
variable {prog : Program} {w : World} {A : Around} {E : Value → Shared → Prop} {s : Shared} {h₀ : Heap} {L D a : Addr} {m : Str → Option Value} {news news' src : List (Addr × Obj)} {vs us : List Value} {ds : List Dat} {ns : List Int} {n nn : Nat} {k : Int} {t : Tok}
theorem set_row {Q : Unit → Shared → Prop} (F : Fr h₀ L s.heap m) (N : News h₀ L s.heap news) (U : Upd D (listOf vs.toArray n) (listOf (vs.set k.toNat (.ref a)).toArray n) news news') (hd : DatAll src vs ds) (h0 : 0 ≤ k) (h1 : k < ds.length) (hfit : k < 2 ^ 63) (hI : IntsAre us ns) (hz : ns = List.replicate 16 (0 : Int))
    (h : ∀ h', Fr h₀ L h' m → News h₀ L h' news' → DatAll ((a, listOf us.toArray nn) :: src) (vs.set k.toNat (.ref a)) (ds.set k.toNat zrow) → Q () { s with heap := h' }) :
    wpAny (model prog w) A (setItem (.ref D) (.int k t) (.ref a)) Q E s := by
  refine set_any F N U h0 (by rw [hd.length]; exact h1) hfit fun h' F' N' => h h' F' N' ?_
  refine DatAll.setD ?_ (DatAll.mono (fun p hp => List.mem_cons_of_mem _ hp) hd) _
  subst hz
  exact DatIn.list List.mem_cons_self (ints_dat hI)
end
end Mine
end
section
open PySem.Calls
namespace Mine
def cell8 (ns : List Int) (i : Int) : Int := if i < (ns.length : Int) then ns.getD i.toNat 0 else 0
section
variable {prog : Program} {w : World} {A : Around} {E : Value → Shared → Prop} {s : Shared} {a b : Int} {t u : Tok} {Q : Value → Shared → Prop}
theorem eq_yes (h : a = b) (hq : Q (.bool true) s) : wpAny (model prog w) A (compareOp .Eq (.int a t) (.int b u)) Q E s := eq_int (by rw [h, beq_self_eq_true]; exact hq)
theorem eq_no (h : a ≠ b) (hq : Q (.bool false) s) : wpAny (model prog w) A (compareOp .Eq (.int a t) (.int b u)) Q E s := eq_int (by rw [beq_false_of_ne h]; exact hq)
theorem ne_no (h : a = b) (hq : Q (.bool false) s) : wpAny (model prog w) A (compareOp .NotEq (.int a t) (.int b u)) Q E s := ne_int (by rw [h, bne_self_eq_false]; exact hq)
theorem gt_no (h : ¬ b < a) (hq : Q (.bool false) s) : wpAny (model prog w) A (compareOp .Gt (.int a t) (.int b u)) Q E s := gt_int (by rw [decide_eq_false h]; exact hq)
theorem gt_yes (h : b < a) (hq : Q (.bool true) s) : wpAny (model prog w) A (compareOp .Gt (.int a t) (.int b u)) Q E s := gt_int (by rw [decide_eq_true h]; exact hq)
end
theorem row_ok {d : Dat} (h : IsRow d) : kqdOk 8 d = true := by
  obtain ⟨r, rfl, _⟩ := h
  simp only [kqdOk, List.all_eq_true]
  intro x hx
  obtain ⟨i, _, rfl⟩ := List.mem_map.mp hx
  rfl
theorem zrow_row : IsRow zrow := ⟨List.replicate 16 0, rfl, rfl⟩
theorem zf_rows (pre : List Int) {ds : List Dat} (h : ∀ d ∈ ds, IsRow d) : ∀ d ∈ zf pre ds, IsRow d := by
  induction pre generalizing ds with
  | nil => exact h
  | cons p r ih =>
    refine ih (ds := ds.set p.toNat zrow) ?_
    intro d hd
    rcases List.mem_or_eq_of_mem_set hd with hd | rfl
    · exact h d hd
    · exact zrow_row
section
variable {prog : Program} {w : World} {A : Around} {E : Value → Shared → Prop} {s : Shared} {h₀ : Heap} {L a b : Addr} {news n₁ n₂ : List (Addr × Obj)} {xs ys : List Value} {ka kb : Nat} {ds es : List Dat} {Q : Value → Shared → Prop}
theorem ne_rows (N : News h₀ L s.heap news) (ma : (a, listOf xs.toArray ka) ∈ news) (Da : DatAll n₁ xs ds) (sa : ∀ p ∈ n₁, p ∈ news) (mb : (b, listOf ys.toArray kb) ∈ news) (Db : DatAll n₂ ys es) (sb : ∀ p ∈ n₂, p ∈ news)
    (hr : ∀ d ∈ ds, IsRow d) (e : ds = es) (hu : A.units + 64 < cLine) (h : Q (.bool false) s) : wpAny (model prog w) A (compareOp .NotEq (.ref a) (.ref b)) Q E s := by
  have ha : ∀ d ∈ ds, kqdOk 8 d = true := fun d hd => row_ok (hr d hd)
  refine kqd_ne N ma rfl rfl Da sa mb rfl rfl Db sb ha (e ▸ ha) hu ?_
  have e' : ∀ i : Decidable (ds = es), (!@decide (ds = es) i) = false := fun i => by rw [@decide_eq_true _ i e]; rfl
  rw [e']
  exact h
theorem size_rows {src : List (Addr × Obj)} {ds9 : List Dat} {R : Int → Dat → Prop} {n : Nat} (hd : DatAll src xs ds) (hl : ds.length = ds9.length) (al : All2 R (rangeKs 0 n) ds9) (hn : n ≤ 100) : xs.toArray.size ≤ sizeLine := by
  rw [sizeLine_eq, List.size_toArray, hd.length, hl, ← al.length, rangeKs_length]
  omega
end
/-- the places in the order in which they are wiped -/
theorem zf_take {n₁ n₂ : Nat} (L : List Int) (ds : List Dat) (h : n₁ = n₂) : zf (L.take n₁) ds = zf (L.take n₂) ds := by rw [h]
theorem zf_none {n : Nat} (L : List Int) (ds : List Dat) (h : n = 0) : ds = zf (L.take n) ds := by rw [h]; rfl
theorem w_start (X : List Int) (ds : List Dat) : ds.set (Int.toNat 0) zrow = zf (List.take (1 + ([] : List Int).length) ([0] ++ X)) ds := rfl
theorem w_step {pre : List Int} {G k : Int} {n : Nat} (ds : List Dat) (hl : pre.length < n) (hk : k = 0 + (pre.length : Int)) :
    (zf (List.take (1 + pre.length) ([0] ++ List.map (fun k' => 1 + G + k') (rangeKs 0 n))) ds).set (1 + G + k).toNat zrow = zf (List.take (1 + (pre ++ [k]).length) ([0] ++ List.map (fun k' => 1 + G + k') (rangeKs 0 n))) ds := by
  have e : List.take (1 + (pre ++ [k]).length) ([0] ++ List.map (fun k' => 1 + G + k') (rangeKs 0 n)) = List.take (1 + pre.length) ([0] ++ List.map (fun k' => 1 + G + k') (rangeKs 0 n)) ++ [1 + G + k] := by
    have e1 : 1 + (pre ++ [k]).length = (1 + pre.length) + 1 := by simp; omega
    rw [e1, List.take_add_one]
    congr 1
    have e2 : ([0] ++ List.map (fun k' => 1 + G + k') (rangeKs 0 n))[1 + pre.length]? = some (1 + G + k) := by
      rw [Nat.add_comm, List.singleton_append, List.getElem?_cons_succ, List.getElem?_map]
      simp [rangeKs, hl, hk]
    rw [e2]
    rfl
  rw [e, zf_step]
section
variable {prog : Program} {w : World} {A : Around} {E : Value → Shared → Prop} {s : Shared} {h₀ : Heap} {L D a : Addr} {m : Str → Option Value} {news news' src : List (Addr × Obj)} {vs us : List Value} {ds : List Dat} {ns : List Int} {n nn : Nat} {k : Int} {t : Tok}
theorem set_rowM {Q : Unit → Shared → Prop} (F : Fr h₀ L s.heap m) (N : News h₀ L s.heap news) (U : Upd D (listOf vs.toArray n) (listOf (vs.set k.toNat (.ref a)).toArray n) news news') (hm : (a, listOf us.toArray nn) ∈ news) (hI : IntsAre us ns) (hz : ns = List.replicate 16 (0 : Int)) (hd : DatAll src vs ds) (h0 : 0 ≤ k) (h1 : k < ds.length) (hfit : k < 2 ^ 63)
    (h : ∀ h', Fr h₀ L h' m → News h₀ L h' news' → DatAll ((a, listOf us.toArray nn) :: src) (vs.set k.toNat (.ref a)) (ds.set k.toNat zrow) → Q () { s with heap := h' }) :
    wpAny (model prog w) A (setItem (.ref D) (.int k t) (.ref a)) Q E s := set_row F N U hd h0 h1 hfit hI hz h
end
section
variable {R : Int → Dat → Prop} {ds : List Dat} {rG rS kN : Int} {n : Nat}
theorem len9 (al : All2 R (rangeKs 0 (1 + (1 + rG) + (1 + rS) - 0).toNat) ds) (g : 0 ≤ rG) (h : 0 ≤ rS) : (ds.length : Int) = 3 + rG + rS := by rw [← al.length, rangeKs_length]; omega
theorem place_lo (hm : kN ∈ List.take n ([0] ++ List.map (fun k' => 1 + (1 + rG) + k') (rangeKs 0 (1 + rS - 0).toNat))) (g : 0 ≤ rG) (h : 0 ≤ rS) : 0 ≤ kN := (place_in hm (by omega) (by omega)).1
theorem place_lt (pre : List Int) (hm : kN ∈ List.take n ([0] ++ List.map (fun k' => 1 + (1 + rG) + k') (rangeKs 0 (1 + rS - 0).toNat))) (al : All2 R (rangeKs 0 (1 + (1 + rG) + (1 + rS) - 0).toNat) ds) (g : 0 ≤ rG) (h : 0 ≤ rS) : kN < ((zf pre ds).length : Int) := by
  have q := (place_in hm (by omega) (by omega)).2
  rw [zf_len, len9 al g h]
  omega
theorem place_fit (hm : kN ∈ List.take n ([0] ++ List.map (fun k' => 1 + (1 + rG) + k') (rangeKs 0 (1 + rS - 0).toNat))) (g : 0 ≤ rG) (h : 0 ≤ rS) (g' : rG < 4) (h' : rS < 8) : kN < 2 ^ 63 := by
  have q := (place_in hm (by omega) (by omega)).2
  omega
theorem zero_lt9 (al : All2 R (rangeKs 0 (1 + (1 + rG) + (1 + rS) - 0).toNat) ds) (g : 0 ≤ rG) (h : 0 ≤ rS) : (0 : Int) < (ds.length : Int) := by rw [len9 al g h]; omega
theorem home_lo {k : Nat} (e : kN = 0 + (k : Int)) (g : 0 ≤ rG) : 0 ≤ 1 + (1 + rG) + kN := by omega
theorem home_lt {k : Nat} (pre : List Int) (e : kN = 0 + (k : Int)) (hl : k < (1 + rS - 0).toNat) (al : All2 R (rangeKs 0 (1 + (1 + rG) + (1 + rS) - 0).toNat) ds) (g : 0 ≤ rG) (h : 0 ≤ rS) : 1 + (1 + rG) + kN < ((zf pre ds).length : Int) := by
  rw [zf_len, len9 al g h]
  omega
theorem home_fit {k : Nat} (e : kN = 0 + (k : Int)) (hl : k < (1 + rS - 0).toNat) (g' : rG < 4) (h' : rS < 8) : 1 + (1 + rG) + kN < 2 ^ 63 := by omega
end
theorem off1_ne {D : Addr} : ∀ {l : List (Addr × Obj)}, LCg.Off1 D l → ∀ p ∈ l, p.1 ≠ D
  | [], _, p, hp => nomatch hp
  | q :: r, h, p, hp => by
    rcases List.mem_cons.mp hp with rfl | hp
    · exact h.1
    · exact off1_ne h.2 p hp
theorem off1_at {D b : Addr} {o : Obj} {l : List (Addr × Obj)} (h : LCg.Off1 D l) (hm : (b, o) ∈ l) : b ≠ D := off1_ne h _ hm
section
variable {prog : Program} {w : World} {A₀ : Around} {E : Value → Shared → Prop} {s' : Shared} {h₀ h : Heap} {outer : List Env} {L a e t : Addr} {m : Str → Option Value} {name : Str} {scope : Scope} {cd : Value} {cl : List (Str × Addr)}
  {vs : List Value} {b₀ : Stmt} {suite : List Stmt} {pos np : Pos} {rest : List ExceptHandler} {Q : Flow → Shared → Prop} {news : List (Addr × Obj)} {KF : Frag} {C : Addr} {bmB : List Value} {newId : String}
  {p : Program} {loose : List Str} {mg mb : Str → Option Value} {x : Str}
/-- a class of the text's own caught by its name, in a frame that has cells -/
theorem caught_C0 (K : Below A₀ h₀ outer h₀) (F : Fr h₀ L h m) (hsm : h.UpToSlots s'.heap) (R : RaisedK h₀ (envX name scope L a cd cl :: outer) e (.ref C) t vs news s'.heap)
    (X : KF.In h₀) (T : TopRead p loose mg mb h₀) (ex : nsIn KF mainGlobals x = some (some (.ref C))) (q : excIn KF C bmB newId = true) (hbase : bmB.contains (.type "BaseException") = true)
    (k : ∀ h', Fr h₀ L h' m → News h₀ L h' news →
      wpAny (model prog w) ((A₀.deeper (envX name scope L a cd cl)).mark (some (.ref e))) (execs (b₀ :: suite) (envX name scope L a cd cl)) Q E { s' with heap := h' })
    (hk : scope.kind = .function) (hx : (envX name scope L a cd cl).kindOf x = some .globalImplicit) (hd : (x == ("__debug__" : Str)) = false)
    (hE : PassesOwnAt (model prog w) ((A₀.deeper (envX name scope L a cd cl)).mark (some (.ref e))) (A₀.deeper (envX name scope L a cd cl)) (envX name scope L a cd cl) E) :
    wpAny (model prog w) (A₀.deeper (envX name scope L a cd cl)) (noteFrame (.ref e) (envX name scope L a cd cl))
      (fun _ s₂ => wpAny (model prog w) (A₀.deeper (envX name scope L a cd cl)) (setFlight (.ref e) none) (fun _ s₃ =>
        wpAny (model prog w) (A₀.deeper (envX name scope L a cd cl)) (handleBy (.ref e) (envX name scope L a cd cl) (.ExceptHandler (some (.Name x np)) none (b₀ :: suite) pos :: rest)) Q E s₃) E s₂) E s' := by
  obtain ⟨⟨B, hB, hl, hfl, _⟩, _⟩ := R
  have hL : B.get? L = none := by
    obtain ⟨_, ⟨L', _, hf, hn', _⟩, _⟩ := hfl.2.2.1
    obtain rfl : L = L' := Option.some.inj hf
    exact hn'
  refine wpAny_looks_onW (Around.frames_deeper K.stack) rfl hfl fun h₄ hheld₄ hsm₄ => wpAny_landsW hheld₄ fun h₅ hheld hsm₅ => ?_
  have F₅ := F.of_stays (flyingW_base hB hheld).1 (hsm.trans (hsm₄.trans hsm₅))
  obtain ⟨ob, hob, hobc⟩ := (flyingW_base hB hheld).there
  refine wpAny_handleBy_cons (codeAny_handlers_test (nameX_K F₅ X T ex ?_ hk hx hd)) (by intro q; cases q)
  obtain ⟨_, _, _, _, _, _, _, _, _, _, _, _, _, _, _, _, _, hC, _, _, TL⟩ := ((own_of_in X T ex q).keeps F₅.keep).obj
  refine wpAny_excMatches_sub_self hC hob hobc (TL.hasType hbase) (codeAny_handlers_suite ?_)
  refine lands_againW hheld fun h₆ hfl₆ hsm₆ => wpAny_passesOwnAt hE (k h₆ (F.of_stays (flyingW_base hB hfl₆).1 ((hsm.trans (hsm₄.trans hsm₅)).trans hsm₆)) fun q hq => ?_)
  exact ⟨hfl₆.1 _ _ (hl q hq).1, (fun z => by have := (hl q hq).1; rw [z, hL] at this; cases this), (hl q hq).2⟩
end
section
variable {rB rS bud : Int} {n : Nat}
theorem t1 (h : rB - 1 = -1) : rB - 1 ≠ 0 := by omega
theorem t1g (h : rB - 1 = -1) : ¬ 0 < rB - 1 := by omega
theorem t3 (h : ¬ rB - 1 < 1 + rS + 1) (g : 0 ≤ rS) : rB - 1 ≠ 0 := by omega
theorem t3g (h : ¬ rB - 1 < 1 + rS + 1) (g : 0 ≤ rS) : 0 < rB - 1 := by omega
theorem t2g (h : ¬ rB - 1 = -1) (h' : ¬ rB - 1 = 0) (g : 0 ≤ rB) : 0 < rB - 1 := by omega
theorem u1 (h : rB - 1 = -1) (k : (rB - 1 = -1 ∧ bud = -1) ∨ (0 ≤ rB - 1 ∧ 0 ≤ bud ∧ bud = rB - 1 - (1 + (n : Int)))) : bud ≠ 0 := by omega
theorem u1g (h : rB - 1 = -1) (k : (rB - 1 = -1 ∧ bud = -1) ∨ (0 ≤ rB - 1 ∧ 0 ≤ bud ∧ bud = rB - 1 - (1 + (n : Int)))) : ¬ 0 < bud := by omega
theorem u3 (h : ¬ rB - 1 < 1 + rS + 1) (k : (rB - 1 = -1 ∧ bud = -1) ∨ (0 ≤ rB - 1 ∧ 0 ≤ bud ∧ bud = rB - 1 - (1 + (n : Int)))) (l : n < (1 + rS - 0).toNat) (g : 0 ≤ rS) : bud ≠ 0 := by omega
theorem u3g (h : ¬ rB - 1 < 1 + rS + 1) (k : (rB - 1 = -1 ∧ bud = -1) ∨ (0 ≤ rB - 1 ∧ 0 ≤ bud ∧ bud = rB - 1 - (1 + (n : Int)))) (l : n < (1 + rS - 0).toNat) (g : 0 ≤ rS) : 0 < bud := by omega
theorem inv_keep {pre : List Int} {k : Int} (h : rB - 1 = -1) (q : (rB - 1 = -1 ∧ bud = -1) ∨ (0 ≤ rB - 1 ∧ 0 ≤ bud ∧ bud = rB - 1 - (1 + (pre.length : Int)))) : (rB - 1 = -1 ∧ bud = -1) ∨ (0 ≤ rB - 1 ∧ 0 ≤ bud ∧ bud = rB - 1 - (1 + ((pre ++ [k]).length : Int))) := by omega
theorem inv_dec {pre : List Int} {k : Int} (h : 0 < bud) (q : (rB - 1 = -1 ∧ bud = -1) ∨ (0 ≤ rB - 1 ∧ 0 ≤ bud ∧ bud = rB - 1 - (1 + (pre.length : Int)))) : (rB - 1 = -1 ∧ bud - 1 = -1) ∨ (0 ≤ rB - 1 ∧ 0 ≤ bud - 1 ∧ bud - 1 = rB - 1 - (1 + ((pre ++ [k]).length : Int))) := by
  rw [List.length_append, List.length_singleton]
  omega
theorem wr_step {pre : List Int} {k wr : Int} (h : wr = 1 + (pre.length : Int)) : wr + 1 = 1 + ((pre ++ [k]).length : Int) := by
  rw [List.length_append, List.length_singleton, h]
  omega
theorem u2g (h : ¬ rB - 1 = -1) (k : (rB - 1 = -1 ∧ bud = -1) ∨ (0 ≤ rB - 1 ∧ 0 ≤ bud ∧ bud = rB - 1 - (1 + (n : Int)))) (h' : ¬ bud = 0) : 0 < bud := by omega
end
theorem ne_chain {l : List (Addr × Obj)} {b d x : Addr} {o : Obj} (h2 : @LT.lt Nat _ d x) (h1 : ∀ q ∈ l, q.1 < d) (hm : (b, o) ∈ l) : x ≠ b := fun e => by
  have h := h1 _ hm
  have h3 : @LT.lt Nat _ b d := h
  rw [← e] at h3
  exact absurd (Nat.lt_trans h2 h3) (Nat.lt_irrefl _)
/-- what the law expects of the power -/
def Bud (B S dn lf : Int) (du : Bool) : Prop := (B = -1 ∧ dn = S + 1 ∧ lf = -1 ∧ du = false) ∨ (0 ≤ B ∧ B < S + 1 ∧ dn = B ∧ lf = 0 ∧ du = true) ∨ (S + 1 ≤ B ∧ dn = S + 1 ∧ lf = B - (S + 1) ∧ du = false)
section
variable {B S : Int}
theorem Bud1 (h : B = -1) : Bud B S (S + 1) (-1) false := .inl ⟨h, rfl, rfl, rfl⟩
theorem Bud2 (h0 : ¬ B = -1) (h1 : -1 ≤ B) (h : B < S + 1) : Bud B S B 0 true := .inr (.inl ⟨by omega, h, rfl, rfl, rfl⟩)
theorem Bud_lo {dn lf : Int} {du : Bool} (h : Bud B S dn lf du) (hS : 0 ≤ S) : 0 ≤ dn := by rcases h with ⟨_, h, _, _⟩ | ⟨_, _, h, _, _⟩ | ⟨_, h, _, _⟩ <;> omega
theorem Bud_hi {dn lf : Int} {du : Bool} (h : Bud B S dn lf du) : dn ≤ S + 1 := by rcases h with ⟨_, h, _, _⟩ | ⟨_, _, h, _, _⟩ | ⟨_, h, _, _⟩ <;> omega
theorem Bud3 (h : ¬ B < S + 1) : Bud B S (S + 1) (B - (S + 1)) false := .inr (.inr ⟨by omega, rfl, rfl, rfl⟩)
end
end Mine
end
section
namespace Mine
theorem own_nil {adr : List Addr} : OwnOff [] adr := fun _ hp => nomatch hp
theorem own_cons {a : Addr} {o : Obj} {r : List (Addr × Obj)} {adr : List Addr} (h : ∀ b ∈ adr, b ≠ a) (hr : OwnOff r adr) : OwnOff ((a, o) :: r) adr := fun p hp b hb => by
  rcases List.mem_cons.mp hp with rfl | hp
  · exact (h b hb).symm
  · exact hr p hp b hb
/-- the two lists of what is staged, whether or not something is -/
structure StA (rest : List (Addr × Obj)) (ls ln : Addr) (nv sv : List Value) (src : List (Addr × Obj)) (sd : List Dat) : Prop where
  one : DatAll src nv sd
  two : DatAll src sv sd
  ok : ∀ d ∈ sd, kqdOk 8 d = true
  off : OwnOff src (ln :: ls :: rest.map (·.1))
def MidA (h₀ : Heap) (L : Addr) (m : Str → Option Value) (ls : Addr) (rest : List (Addr × Obj)) (s s' : Shared) : Prop :=
  ∃ (ln : Addr) (nv sv : List Value) (n1 n2 : Nat) (src : List (Addr × Obj)) (sd : List Dat) (h : Heap) (tk : Nat) (u : Str → Option Value), s' = { s with heap := h, toks := tk } ∧
    Fr h₀ L h (fun y => if y = Str.ofString "i" then u y else kstB (fun z => if [Str.ofString "block"].contains z then u z else m z) [(Str.ofString "noted", Value.ref ln)] y) ∧
    News h₀ L h ((ln, listOf nv.toArray n1) :: (ls, listOf sv.toArray n2) :: (rest ++ src)) ∧ ((∀ q ∈ rest, q.1 < ln) ∧ ls ≠ ln) ∧ StA rest ls ln nv sv src sd
section
variable {prog : Program} {w : World} {A : Around} {E : Value → Shared → Prop} {s : Shared} {env : Env} {Q : Flow → Shared → Prop} {h₀ : Heap} {L : Addr} {m m' : Str → Option Value} {rest all : List (Addr × Obj)} {ls ln l0 : Addr} {nv sv : List Value} {n1 n2 : Nat} {src : List (Addr × Obj)} {sd : List Dat} {o0 o1 : Obj}
theorem MidA.mk (src : List (Addr × Obj)) {h' : Heap} {tk : Nat} (F : Fr h₀ L h' m') (N : News h₀ L h' all) (hk : ∀ p ∈ [(Str.ofString "noted", Value.ref ln)], m' p.1 = some p.2) (hr : ∀ z, z ≠ Str.ofString "i" → (∀ p ∈ [(Str.ofString "noted", Value.ref ln)], z ≠ p.1) → [Str.ofString "block"].contains z = false → m' z = m z)
    (mn : (ln, listOf nv.toArray n1) ∈ all) (ms : (ls, listOf sv.toArray n2) ∈ all) (sr : ∀ p ∈ rest, p ∈ all) (ss : ∀ p ∈ src, p ∈ all) (lt : ∀ q ∈ rest, q.1 < ln) (ne : ls ≠ ln) (one : DatAll src nv sd) (two : DatAll src sv sd) (ok : ∀ d ∈ sd, kqdOk 8 d = true) (off : OwnOff src (ln :: ls :: rest.map (·.1))) :
    MidA h₀ L m ls rest s { s with heap := h', toks := tk } :=
  ⟨ln, nv, sv, n1, n2, src, sd, h', tk, m', rfl, kst_frOut hk hr F, fun p hp => by
    rcases List.mem_cons.mp hp with rfl | hp
    · exact N _ mn
    · rcases List.mem_cons.mp hp with rfl | hp
      · exact N _ ms
      · rcases List.mem_append.mp hp with hp | hp
        · exact N _ (sr p hp)
        · exact N _ (ss p hp), ⟨lt, ne⟩, one, two, ok, off⟩
theorem cutA (F : Fr h₀ L s.heap m) (_N : News h₀ L s.heap ((l0, o0) :: (ls, o1) :: rest)) (a b : List Stmt)
    (h1 : wpAny (model prog w) A (execs a env) (fun f s' => match f with | .next => MidA h₀ L m ls rest s s' | f => Q f s') E s)
    (h2 : ∀ (ln : Addr) (nv sv : List Value) (n1 n2 : Nat) (src : List (Addr × Obj)) (sd : List Dat) (h : Heap) (tk : Nat) (u : Str → Option Value),
      Fr h₀ L h (fun y => if y = Str.ofString "i" then u y else kstB (fun z => if [Str.ofString "block"].contains z then u z else m z) [(Str.ofString "noted", Value.ref ln)] y) →
      News h₀ L h ((ln, listOf nv.toArray n1) :: (ls, listOf sv.toArray n2) :: (rest ++ src)) → (∀ q ∈ (ls, listOf sv.toArray n2) :: rest, q.1 ≠ ln) → (∀ q ∈ rest, q.1 < ln) → DatAll src nv sd → DatAll src sv sd → (∀ d ∈ sd, kqdOk 8 d = true) → OwnOff src (ln :: ls :: rest.map (·.1)) →
      wpAny (model prog w) A (execs b env) Q E { s with heap := h, toks := tk }) : wpAny (model prog w) A (execs (a ++ b) env) Q E s :=
  cut_at (MidA h₀ L m ls rest s) a b h1 (by
    rintro s' ⟨ln, nv, sv, n1, n2, src, sd, h, tk, u, rfl, F', N', ⟨lt, ne⟩, ⟨one, two, ok, off⟩⟩
    refine h2 ln nv sv n1 n2 src sd h tk u F' N' (fun q hq => ?_) lt one two ok off
    rcases List.mem_cons.mp hq with rfl | hq
    · exact ne
    · exact Nat.ne_of_lt (lt q hq))
theorem ne_dat {xs ys : List Value} {ka kb : Nat} {a b : Addr} {news n₁ n₂ : List (Addr × Obj)} {ds : List Dat} {Q : Value → Shared → Prop} (N : News h₀ L s.heap news) (ma : (a, listOf xs.toArray ka) ∈ news) (Da : DatAll n₁ xs ds) (sa : ∀ p ∈ n₁, p ∈ news) (mb : (b, listOf ys.toArray kb) ∈ news) (Db : DatAll n₂ ys ds) (sb : ∀ p ∈ n₂, p ∈ news)
    (ha : ∀ d ∈ ds, kqdOk 8 d = true) (hu : A.units + 64 < cLine) (h : Q (.bool false) s) : wpAny (model prog w) A (compareOp .NotEq (.ref a) (.ref b)) Q E s := by
  refine kqd_ne N ma rfl rfl Da sa mb rfl rfl Db sb ha ha hu ?_
  have e' : ∀ i : Decidable (ds = ds), (!@decide (ds = ds) i) = false := fun i => by rw [@decide_eq_true _ i rfl]; rfl
  rw [e']
  exact h
theorem lt_sub {big rest : List (Addr × Obj)} {ln : Addr} (h : ∀ q ∈ big, q.1 < ln) (sub : ∀ p ∈ rest, p ∈ big) : ∀ q ∈ rest, q.1 < ln := fun q hq => h q (sub q hq)
theorem MidA.plain {h' : Heap} {tk : Nat} (F : Fr h₀ L h' m') (N : News h₀ L h' all) (hk : ∀ p ∈ [(Str.ofString "noted", Value.ref ln)], m' p.1 = some p.2) (hr : ∀ z, z ≠ Str.ofString "i" → (∀ p ∈ [(Str.ofString "noted", Value.ref ln)], z ≠ p.1) → [Str.ofString "block"].contains z = false → m' z = m z)
    (mn : (ln, listOf ([] : List Value).toArray n1) ∈ all) (ms : (ls, listOf ([] : List Value).toArray n2) ∈ all) (sr : ∀ p ∈ rest, p ∈ all) (lt : ∀ q ∈ rest, q.1 < ln) (ne : ls ≠ ln) : MidA h₀ L m ls rest s { s with heap := h', toks := tk } :=
  MidA.mk [] F N hk hr mn ms sr (fun _ hp => nomatch hp) lt ne .nil .nil (fun _ hp => nomatch hp) own_nil
theorem ints_ok (ns : List Int) : kqdOk 7 (Dat.list (ns.map Dat.int)) = true := by
  simp only [kqdOk, List.all_eq_true]
  intro x hx
  obtain ⟨i, _, rfl⟩ := List.mem_map.mp hx
  rfl
theorem MidA.staged {D4 D5 D6 l2 : Addr} {i : Int} {t t' : Tok} {k4 k5 k6 k2 : Nat} {v6 v2 : List Value} {ns : List Int} {h' : Heap} {tk : Nat} (F : Fr h₀ L h' m') (N : News h₀ L h' all) (hk : ∀ p ∈ [(Str.ofString "noted", Value.ref ln)], m' p.1 = some p.2) (hr : ∀ z, z ≠ Str.ofString "i" → (∀ p ∈ [(Str.ofString "noted", Value.ref ln)], z ≠ p.1) → [Str.ofString "block"].contains z = false → m' z = m z)
    (mn : (ln, listOf [Value.ref D4].toArray n1) ∈ all) (ms : (ls, listOf [Value.ref D5].toArray n2) ∈ all) (m4 : (D4, ({ cls := .type "tuple", data := .seq [Value.int i t, Value.ref l2].toArray k4 } : Obj)) ∈ all) (m5 : (D5, ({ cls := .type "tuple", data := .seq [Value.int i t', Value.ref D6].toArray k5 } : Obj)) ∈ all)
    (m6 : (D6, listOf v6.toArray k6) ∈ all) (m2 : (l2, listOf v2.toArray k2) ∈ all) (I6 : IntsAre v6 ns) (I2 : IntsAre v2 ns) (sr : ∀ p ∈ rest, p ∈ all) (lt : ∀ q ∈ rest, q.1 < ln) (ne : ls ≠ ln)
    (o4 : ∀ b ∈ ln :: ls :: rest.map (·.1), b ≠ D4) (o5 : ∀ b ∈ ln :: ls :: rest.map (·.1), b ≠ D5) (o6 : ∀ b ∈ ln :: ls :: rest.map (·.1), b ≠ D6) (o2 : ∀ b ∈ ln :: ls :: rest.map (·.1), b ≠ l2) : MidA h₀ L m ls rest s { s with heap := h', toks := tk } := by
  refine MidA.mk (sd := [Dat.tuple [Dat.int i, Dat.list (ns.map Dat.int)]]) [(D4, ({ cls := .type "tuple", data := .seq [Value.int i t, Value.ref l2].toArray k4 } : Obj)), (D5, ({ cls := .type "tuple", data := .seq [Value.int i t', Value.ref D6].toArray k5 } : Obj)), (D6, listOf v6.toArray k6), (l2, listOf v2.toArray k2)] F N hk hr mn ms sr ?_ lt ne ?_ ?_ ?_ (own_cons o4 (own_cons o5 (own_cons o6 (own_cons o2 own_nil))))
  · exact List.forall_mem_cons.mpr ⟨m4, List.forall_mem_cons.mpr ⟨m5, List.forall_mem_cons.mpr ⟨m6, List.forall_mem_cons.mpr ⟨m2, List.forall_mem_nil _⟩⟩⟩⟩
  · exact DatAll.one (DatIn.tuple List.mem_cons_self (.cons (.int _ _) (.cons (DatIn.list (List.mem_cons_of_mem _ (List.mem_cons_of_mem _ (List.mem_cons_of_mem _ List.mem_cons_self))) (ints_dat I2)) .nil)))
  · exact DatAll.one (DatIn.tuple (List.mem_cons_of_mem _ List.mem_cons_self) (.cons (.int _ _) (.cons (DatIn.list (List.mem_cons_of_mem _ (List.mem_cons_of_mem _ List.mem_cons_self)) (ints_dat I6)) .nil)))
  · intro d hd
    rw [List.mem_singleton.mp hd]
    have := ints_ok ns
    simp only [kqdOk, List.all_cons, List.all_nil, Bool.and_true] at this ⊢
    exact this
end
/-- an object that may be a row -/
def Usable (o : Obj) : Prop := ∃ (us : List Value) (n : Nat) (ns : List Int), o = listOf us.toArray n ∧ IntsAre us ns
theorem rows_move {src src' : List (Addr × Obj)} (hs : ∀ p ∈ src, Usable p.2 → p ∈ src') : ∀ {vs : List Value} {ds : List Dat}, DatAll src vs ds → (∀ d ∈ ds, IsRow d) → DatAll src' vs ds
  | _, _, .nil, _ => .nil
  | _, _, .cons h r, hr => by
    refine .cons ?_ (rows_move hs r fun d hd => hr d (List.mem_cons_of_mem _ hd))
    obtain ⟨a, us, n, ns, rfl, hm, hi, rfl, hl⟩ := row_in h (hr _ List.mem_cons_self)
    exact DatIn.list (hs _ hm ⟨us, n, ns, rfl, hi⟩) (ints_dat hi)
theorem no_dict {es : List DictEntry} {n : Nat} : ¬ Usable (dictOf es n) := by
  rintro ⟨us, k, ns, e, _⟩
  have := congrArg Obj.data e
  cases this
theorem no_rows {src : List (Addr × Obj)} {ys : List Value} {ds : List Dat} {k : Nat} (h : DatAll src ys ds) (hr : ∀ d ∈ ds, IsRow d) (h0 : 0 < ds.length) : ¬ Usable (listOf ys.toArray k) := by
  rintro ⟨us, n, ns, e, hi⟩
  have e1 : ys.toArray = us.toArray := by
    have := congrArg Obj.data e
    injection this
  have e2 : ys = us := by simpa using e1
  subst e2
  cases h with
  | nil => exact absurd h0 (Nat.lt_irrefl _)
  | cons a r =>
    obtain ⟨_, _, _, _, rfl, _⟩ := row_in a (hr _ List.mem_cons_self)
    cases hi
open Classical in
noncomputable def usables (src : List (Addr × Obj)) : List (Addr × Obj) := src.filter fun p => decide (Usable p.2)
open Classical in
theorem mem_usables {src : List (Addr × Obj)} {p : Addr × Obj} (h : p ∈ usables src) : p ∈ src ∧ Usable p.2 := by
  have := List.mem_filter.mp h
  exact ⟨this.1, of_decide_eq_true this.2⟩
open Classical in
theorem usables_mem {src : List (Addr × Obj)} {p : Addr × Obj} (h : p ∈ src) (hu : Usable p.2) : p ∈ usables src := List.mem_filter.mpr ⟨h, decide_eq_true hu⟩
section
variable {prog : Program} {w : World} {A : Around} {E : Value → Shared → Prop} {s : Shared} {env : Env} {Q : Flow → Shared → Prop} {h₀ : Heap} {L : Addr} {m m' : Str → Option Value} {rest all big : List (Addr × Obj)} {aw ln ls x d ab x1 d1 : Addr} {ow on os ox od ob ox1 : Obj} {g1 g2 g3 g4 : Addr × Obj} {e1 : DictEntry} {hb hw : Int} {kb kw vb vw : Value} {n3 : Nat} {wv : List Value} {wds ds0 : List Dat} {dn lf : Int} {du : Bool} {ord : List Int}
def MidC (h₀ : Heap) (L : Addr) (m : Str → Option Value) (Led : List Value → Nat → Int → Tok → Int → Tok → Nat → List (Addr × Obj)) (wv : List Value) (wds ds0 : List Dat) (dn lf : Int) (du : Bool) (ord : List Int) (s s' : Shared) : Prop :=
  ∃ (bv : List Value) (nb : Nat) (t1 t2 : Tok) (n4 : Nat) (bl : List (Addr × Obj)) (S : List (Addr × Obj)) (h : Heap) (tk : Nat) (u : Str → Option Value), s' = { s with heap := h, toks := tk } ∧
    Fr h₀ L h (fun y => if y = Str.ofString "zz" then u y else kstB (fun z => if ([] : List Str).contains z then u z else m z) [(Str.ofString "lost", Value.bool du), (Str.ofString "got", Value.none)] y) ∧
    News h₀ L h (Led bv nb lf t1 dn t2 n4 ++ (bl ++ S)) ∧ DatAll bl bv (zf (ord.take dn.toNat) ds0) ∧ DatAll S wv wds
theorem MidC.mk {Led : List Value → Nat → Int → Tok → Int → Tok → Nat → List (Addr × Obj)} {bv : List Value} {nb : Nat} {t1 t2 : Tok} {n4 : Nat} {bl : List (Addr × Obj)} {bds : List Dat} {lo : Bool} {bud wr : Int} {h' : Heap} {tk : Nat} (F : Fr h₀ L h' m') (N : News h₀ L h' all)
    (hk : ∀ p ∈ [(Str.ofString "lost", Value.bool lo), (Str.ofString "got", Value.none)], m' p.1 = some p.2) (hr : ∀ z, z ≠ Str.ofString "zz" → (∀ p ∈ [(Str.ofString "lost", Value.bool lo), (Str.ofString "got", Value.none)], z ≠ p.1) → ([] : List Str).contains z = false → m' z = m z)
    (ml : ∀ p ∈ Led bv nb bud t1 wr t2 n4, p ∈ all) (hd : DatAll bl bv bds) (sb : ∀ p ∈ bl, p ∈ all) (hw : DatAll big wv wds) (hwr : ∀ d ∈ wds, IsRow d) (hbig : ∀ p ∈ big, Usable p.2 → p ∈ all)
    (q1 : lo = du) (q2 : bud = lf) (q3 : wr = dn) (q4 : bds = zf (ord.take dn.toNat) ds0) : MidC h₀ L m Led wv wds ds0 dn lf du ord s { s with heap := h', toks := tk } := by
  subst q1; subst q2; subst q3; subst q4
  refine ⟨bv, nb, t1, t2, n4, bl, usables big, h', tk, m', rfl, kst_frOut hk hr F, fun p hp => ?_, hd, rows_move (fun p hp hu => usables_mem hp hu) hw hwr⟩
  rcases List.mem_append.mp hp with hp | hp
  · exact N _ (ml p hp)
  · rcases List.mem_append.mp hp with hp | hp
    · exact N _ (sb p hp)
    · exact N _ (hbig p (mem_usables hp).1 (mem_usables hp).2)
/-- behind the try: one way -/
theorem cutC (_F : Fr h₀ L s.heap m) (_N : News h₀ L s.heap ((aw, ow) :: g1 :: g2 :: g3 :: g4 :: (ln, on) :: (ls, os) :: (x, ox) :: (d, od) :: (ab, ob) :: (x1, ox1) :: (d1, dictOf [e1, ⟨hb, kb, vb⟩, ⟨hw, kw, vw⟩] n3) :: rest)) (_hw : DatAll big wv (zf (ord.take dn.toNat) ds0)) (lf : Int) (du : Bool) (a b : List Stmt)
    (h1 : wpAny (model prog w) A (execs a env) (fun f s' => match f with | .next => MidC h₀ L m (fun bv nb bud t1 wr t2 n4 => (aw, ow) :: (ln, on) :: (ls, os) :: (x, ox) :: (d, od) :: (ab, listOf bv.toArray nb) :: (x1, ox1) :: (d1, dictOf [e1, ⟨hb, kb, Value.int bud t1⟩, ⟨hw, kw, Value.int wr t2⟩] n4) :: rest) wv (zf (ord.take dn.toNat) ds0) ds0 dn lf du ord s s' | f => Q f s') E s)
    (h2 : ∀ (bv : List Value) (nb : Nat) (t1 t2 : Tok) (n4 : Nat) (bl S : List (Addr × Obj)) (h : Heap) (tk : Nat) (u : Str → Option Value),
      Fr h₀ L h (fun y => if y = Str.ofString "zz" then u y else kstB (fun z => if ([] : List Str).contains z then u z else m z) [(Str.ofString "lost", Value.bool du), (Str.ofString "got", Value.none)] y) →
      News h₀ L h ((aw, ow) :: (ln, on) :: (ls, os) :: (x, ox) :: (d, od) :: (ab, listOf bv.toArray nb) :: (x1, ox1) :: (d1, dictOf [e1, ⟨hb, kb, Value.int lf t1⟩, ⟨hw, kw, Value.int dn t2⟩] n4) :: (rest ++ (bl ++ S))) → DatAll bl bv (zf (ord.take dn.toNat) ds0) → DatAll S wv (zf (ord.take dn.toNat) ds0) →
      wpAny (model prog w) A (execs b env) Q E { s with heap := h, toks := tk }) : wpAny (model prog w) A (execs (a ++ b) env) Q E s :=
  cut_at _ a b h1 (by
    rintro s' ⟨bv, nb, t1, t2, n4, bl, S, h, tk, u, rfl, F', N', h3, h4⟩
    exact h2 bv nb t1 t2 n4 bl S h tk u F' N' h3 h4)
end
section
variable {rB rS rG dn lf bud : Int} {du : Bool} {ds9 : List Dat} {n : Nat} {ord : List Int}
theorem no_blocks {src : List (Addr × Obj)} {ys : List Value} (h : DatAll src ys ds9) (al : All2 (fun (_ : Int) d => IsRow d) (rangeKs 0 (1 + (1 + rG) + (1 + rS) - 0).toNat) ds9) (g : 0 ≤ rG) (h0 : 0 ≤ rS) : ¬ Usable (LCg.lst ys) := by
  have q := zero_lt9 al g h0
  exact no_rows (k := ys.length) h (All2.right al) (by omega)
theorem C1a (b : Bud (rB - 1) (1 + rS) dn lf du) (h : rB - 1 = 0) (g : 0 ≤ rS) : true = du := by rcases b with ⟨_, _, _, e⟩ | ⟨_, _, _, _, e⟩ | ⟨_, _, _, e⟩ <;> first | exact e.symm | (exfalso; omega)
theorem C1b (b : Bud (rB - 1) (1 + rS) dn lf du) (h : rB - 1 = 0) (g : 0 ≤ rS) : rB - 1 = lf := by rcases b with ⟨_, _, _, e⟩ | ⟨_, _, _, _, e⟩ | ⟨_, _, _, e⟩ <;> omega
theorem C1c (b : Bud (rB - 1) (1 + rS) dn lf du) (h : rB - 1 = 0) (g : 0 ≤ rS) : 0 = dn := by rcases b with ⟨_, _, _, e⟩ | ⟨_, _, _, _, e⟩ | ⟨_, _, _, e⟩ <;> omega
theorem C1d (b : Bud (rB - 1) (1 + rS) dn lf du) (h : rB - 1 = 0) (g : 0 ≤ rS) : ds9 = zf (ord.take dn.toNat) ds9 := zf_none _ _ (by rw [← C1c b h g]; rfl)
theorem C2a (b : Bud (rB - 1) (1 + rS) dn lf du) (k : (rB - 1 = -1 ∧ bud = -1) ∨ (0 ≤ rB - 1 ∧ 0 ≤ bud ∧ bud = rB - 1 - (1 + (n : Int)))) (l : n < (1 + rS - 0).toNat) (h : bud = 0) (g : 0 ≤ rS) : true = du := by rcases b with ⟨_, _, _, e⟩ | ⟨_, _, _, _, e⟩ | ⟨_, _, _, e⟩ <;> first | exact e.symm | (exfalso; omega)
theorem C2b (b : Bud (rB - 1) (1 + rS) dn lf du) (k : (rB - 1 = -1 ∧ bud = -1) ∨ (0 ≤ rB - 1 ∧ 0 ≤ bud ∧ bud = rB - 1 - (1 + (n : Int)))) (l : n < (1 + rS - 0).toNat) (h : bud = 0) (g : 0 ≤ rS) : bud = lf := by rcases b with ⟨_, _, _, e⟩ | ⟨_, _, _, _, e⟩ | ⟨_, _, _, e⟩ <;> omega
theorem C2c {wr : Int} (b : Bud (rB - 1) (1 + rS) dn lf du) (k : (rB - 1 = -1 ∧ bud = -1) ∨ (0 ≤ rB - 1 ∧ 0 ≤ bud ∧ bud = rB - 1 - (1 + (n : Int)))) (l : n < (1 + rS - 0).toNat) (h : bud = 0) (hw : wr = 1 + (n : Int)) (g : 0 ≤ rS) : wr = dn := by rcases b with ⟨_, _, _, e⟩ | ⟨_, _, _, _, e⟩ | ⟨_, _, _, e⟩ <;> omega
theorem C2d (b : Bud (rB - 1) (1 + rS) dn lf du) (k : (rB - 1 = -1 ∧ bud = -1) ∨ (0 ≤ rB - 1 ∧ 0 ≤ bud ∧ bud = rB - 1 - (1 + (n : Int)))) (l : n < (1 + rS - 0).toNat) (h : bud = 0) (g : 0 ≤ rS) : zf (ord.take (1 + n)) ds9 = zf (ord.take dn.toNat) ds9 :=
  zf_take _ _ (by have := C2c (wr := 1 + (n : Int)) b k l h rfl g; omega)
theorem C3a (b : Bud (rB - 1) (1 + rS) dn lf du) (k : (rB - 1 = -1 ∧ bud = -1) ∨ (0 ≤ rB - 1 ∧ 0 ≤ bud ∧ bud = rB - 1 - (1 + ((rangeKs 0 (1 + rS - 0).toNat).length : Int)))) (g : 0 ≤ rS) : false = du := by
  rw [rangeKs_length] at k
  rcases b with ⟨_, _, _, e⟩ | ⟨_, _, _, _, e⟩ | ⟨_, _, _, e⟩ <;> first | exact e.symm | (exfalso; omega)
theorem C3b (b : Bud (rB - 1) (1 + rS) dn lf du) (k : (rB - 1 = -1 ∧ bud = -1) ∨ (0 ≤ rB - 1 ∧ 0 ≤ bud ∧ bud = rB - 1 - (1 + ((rangeKs 0 (1 + rS - 0).toNat).length : Int)))) (g : 0 ≤ rS) : bud = lf := by
  rw [rangeKs_length] at k
  rcases b with ⟨_, _, _, e⟩ | ⟨_, _, _, _, e⟩ | ⟨_, _, _, e⟩ <;> omega
theorem C3c {wr : Int} (b : Bud (rB - 1) (1 + rS) dn lf du) (k : (rB - 1 = -1 ∧ bud = -1) ∨ (0 ≤ rB - 1 ∧ 0 ≤ bud ∧ bud = rB - 1 - (1 + ((rangeKs 0 (1 + rS - 0).toNat).length : Int)))) (hw : wr = 1 + ((rangeKs 0 (1 + rS - 0).toNat).length : Int)) (g : 0 ≤ rS) : wr = dn := by
  rw [rangeKs_length] at k hw
  rcases b with ⟨_, _, _, e⟩ | ⟨_, _, _, _, e⟩ | ⟨_, _, _, e⟩ <;> omega
theorem C3d (b : Bud (rB - 1) (1 + rS) dn lf du) (k : (rB - 1 = -1 ∧ bud = -1) ∨ (0 ≤ rB - 1 ∧ 0 ≤ bud ∧ bud = rB - 1 - (1 + ((rangeKs 0 (1 + rS - 0).toNat).length : Int)))) (g : 0 ≤ rS) : zf (ord.take (1 + (rangeKs 0 (1 + rS - 0).toNat).length)) ds9 = zf (ord.take dn.toNat) ds9 :=
  zf_take _ _ (by have := C3c (wr := 1 + ((rangeKs 0 (1 + rS - 0).toNat).length : Int)) b k rfl g; omega)
end
section
variable {prog : Program} {w : World} {A : Around} {E : Value → Shared → Prop} {s : Shared} {B : Int} {t u : Tok} {Q : Value → Shared → Prop}
theorem gt_two (hne : ¬ B = 0) (hlo : -1 ≤ B) (h1 : B = -1 → Q (.bool false) s) (h2 : ¬ B = -1 → Q (.bool true) s) : wpAny (model prog w) A (compareOp .Gt (.int B t) (.int 0 u)) Q E s := by
  by_cases h : B = -1
  · exact gt_no (by omega) (h1 h)
  · exact gt_yes (by omega) (h2 h)
end
theorem off_of {big4 bigL rest : List (Addr × Obj)} {ls ln D4 : Addr} {ols o4 : Obj} (l4 : ∀ q ∈ big4, q.1 < D4) (ms : (ls, ols) ∈ big4) (s4 : ∀ p ∈ rest, p ∈ big4) (lL : ∀ q ∈ bigL, q.1 < ln) (m4 : (D4, o4) ∈ bigL) : ∀ b ∈ ln :: ls :: rest.map (·.1), b ≠ D4 := by
  intro b hb
  rcases List.mem_cons.mp hb with rfl | hb
  · exact Nat.ne_of_gt (lL _ m4)
  · rcases List.mem_cons.mp hb with rfl | hb
    · exact Nat.ne_of_lt (l4 _ ms)
    · obtain ⟨p, hp, rfl⟩ := List.mem_map.mp hb
      exact Nat.ne_of_lt (l4 _ (s4 p hp))
end Mine
end
namespace Mine
def q18 : Program := view PySem.Challenge.pw_k14_0018 [0, 2, 3, 4, 5, 6, 7, 8, 9, 11, 12]
def as18 : List Addr := [2, 3, 15, 17, 18, 20, 21, 22, 29, 30, 31, 32, 35, 42, 43, 44, 45, 48, 50, 51, 53, 54, 55, 57, 58, 60, 61, 62, 64, 65, 67, 68, 69, 71, 72, 74, 75, 83, 86, 87, 88, 90, 91, 93, 94, 95, 97, 98, 100, 101, 102, 105, 106, 107, 108, 109, 110, 111, 121, 123, 124, 126, 127, 128, 130, 131, 133, 134, 135, 137, 138, 140, 141, 142, 144, 145, 147, 148, 149, 151, 152, 154, 155, 156, 158, 159, 161, 162, 163, 165, 166, 168, 169, 170, 172, 173, 175, 176, 177, 179, 180, 182, 183, 184, 186, 187, 189, 190, 191, 193, 194, 196, 197, 198, 200, 201, 203, 204, 205, 207, 208, 210, 211, 212, 214, 215, 217, 218, 219, 221, 222, 224, 225, 226, 227, 228, 229, 230, 233, 235, 236, 238, 239, 240, 243, 244]
end Mine
section
local macro_rules | `(tactic| o_head $_) => `(tactic| assumption)
set_option maxRecDepth 100000 in
theorem Mine.k0 (h : PySem.Challenge.rw_k14_0018.row.Holds) : PySem.Challenge.rw_k14_0018.row.Holds := by k_head
end
set_option maxRecDepth 100000 in
theorem Mine.left18 : LeftO PySem.Challenge.rw_k14_0018.row.prog Mine.q18 [] (fun s => xlAt Mine.q18 [] s && recOk (RowW.records (OpenRow.toRowW (OpenLaw.row PySem.Challenge.rw_k14_0018))) s) (Hook.obs (kHook Mine.k0.heap_1 Mine.as18 (fun _ => by kernel_rfl))) (Hook.val (kHook Mine.k0.heap_1 Mine.as18 (fun _ => by kernel_rfl))) 3328 := by
  refine Mine.left_tree 1700 (by kernel_rfl) (by kernel_rfl) (fun s => by kernel_rfl) (by kernel_rfl) (fun w os => by kernel_rfl) (fun w os => by kernel_rfl) (fun w os => ?_)
  kernel_rfl
local macro_rules | `(tactic| k_head) => `(tactic| (
  refine holds_open (q := Mine.q18) (loose := []) (XP := XL Mine.q18 []) (YP := Hook.says (kHook Mine.k0.heap_1 Mine.as18 (fun _ => by kernel_rfl))) Mine.left18 (Hook.of (kHook Mine.k0.heap_1 Mine.as18 (fun _ => by kernel_rfl))) (Hook.keeps (kHook Mine.k0.heap_1 Mine.as18 (fun _ => by kernel_rfl))) (fun s e => xl_of s (Bool.and_eq_true_iff.mp e).1) XL.keeps (by rfl) (by rfl) (by rfl) (fun s e => recFacts_of (Bool.and_eq_true_iff.mp e).2) (by rfl) (by first | assumption | decide +kernel) (by decide +kernel) ⟨rfl, rfl, rfl, rfl, rfl, by decide +kernel⟩ ?hw ?hc
  all_goals (try (rename _ = true => sd9; clear sd9))))
local macro_rules | `(tactic| k_lt $h:ident) => `(tactic| skip)
local macro_rules | `(tactic| walk_at "exec Try cons cons nil nil") => `(tactic| (k_here; (with_reducible show wpAny _ _ (exec (Stmt.Try _ (_ :: _) _ [] _) _) _ _ _); refine wpAny_Try_except ?_))
local macro_rules | `(tactic| walk_at "noteFrame ref") => `(tactic| (k_here; (rename RaisedK _ _ _ _ _ _ _ _ => rkX); (with_reducible show wpAny _ _ (noteFrame _ _) (fun _ s₂ => wpAny _ _ (setFlight _ none) (fun _ s₃ => wpAny _ _ (handleBy _ _ (ExceptHandler.ExceptHandler (some (Expr.Name _ _)) none _ _ :: _)) _ _ s₃) _ s₂) _ _); k_dflt (refine' Mine.caught_C0 (bmB := [.type "Exception", .type "BaseException", .type "object"]) (newId := "Exception.__new__") ?K ?F ?U ?R ?X ?T ?ex ?q ?hb ?_ ?hk ?hx ?hd ?hE; (case K => assumption); (case F => assumption); (case U => assumption); (case R => exact rkX); (case X => k_asm); (case T => k_asm); (case ex => k_is); (case q => k_exc); (case hb => rfl); (case hk => rfl); (case hx => rfl); (case hd => decide); (case hE => passes_own); k_whole); intro h' F' N'; (try k_sweep)))
local macro_rules | `(tactic| kd_subs) => `(tactic| k_extra "kd_subs")
local macro_rules | `(tactic| k_ne) => `(tactic| k_extra "k_ne")
local macro_rules | `(tactic| kd_adr) => `(tactic| k_extra "kd_adr")
local macro_rules | `(tactic| k_all) => `(tactic| k_extra "k_all")
local macro_rules | `(tactic| kcf_all) => `(tactic| k_extra "kcf_all")
local macro_rules | `(tactic| walk_at $s:str) => `(tactic| k_extra $s)
set_option maxRecDepth 100000 in
set_option maxHeartbeats 40000000 in
theorem PySem.Challenge.cw_k14_0018_holds : PySem.Challenge.rw_k14_0018.Holds := by
  k_with "binaryOp Mod int int" => (k_here; (with_reducible show wpAny _ (Around.deeper _ (envOfC (Str.ofString "law") _ _ _ _)) (binaryOp Operator.Mod (Value.int _ _) (Value.int _ _)) _ _ _); k_dflt (refine Mine.mod_any (by omega) ?_); intro r9 r9lo r9hi)
  k_with "binaryOp Mod int int" => (k_here; (with_reducible show wpAny _ (Around.deeper _ (envOfC (Str.ofString "law") _ _ _ _)) (binaryOp Operator.Mod (Value.int _ _) (Value.int 8 _)) _ _ _); k_dflt (refine Mine.mod_any (by omega) ?_); intro rS rSlo rShi)
  k_with "binaryOp Mod int int" => (k_here; (with_reducible show wpAny _ (Around.deeper _ (envOfC (Str.ofString "law") _ _ _ _)) (binaryOp Operator.Mod (Value.int _ _) (Value.int 4 _)) _ _ _); k_dflt (refine Mine.mod_any (by omega) ?_); intro rG rGlo rGhi)
  k_with "binaryOp Mod int int" => (k_here; (with_reducible show wpAny _ (Around.deeper _ (envOfC (Str.ofString "law") _ _ _ _)) (binaryOp Operator.Mod (Value.int _ _) (Value.int (_ + 4) _)) _ _ _); k_dflt (refine Mine.mod_any (by omega) ?_); intro rB rBlo rBhi)
  k_with "CompSrc BinOp cons ref" => (k_here; (with_reducible show LCg.CompSrc _ _ _ _ _ _ _ (PySem.Expr.BinOp _ _ (PySem.Expr.List _ _) _) _ _ _ _ _ _); k_dflt ((refine LCg.CompSrc.range (by rfl) (by k_asm) (by k_asm) (by assumption) (by exact small_one (by kcf_bnd) (by kcf_bnd) (by kcf_bnd) (by kcf_bnd)) (by exact rangeSize_nat _ _) (by (rw [PySem.sizeLine_eq]; omega)) ?_); intro g'; (refine Mine.compRange0 (fun _ d => Mine.IsRow d) (fun k' t' I' oI' C' oC' D' m' ys' tl' h' tk' E' hlo' hhi' hC' hx' F' N' off' ne' mk1 mk2 => ?_) (fun ys' TL' dsR9 ow' da' al' mk1 mk2 => ?_))); (all_goals (try simp only [List.nil_append, List.cons_append] at N')))
  k_with "CompEnd ref" => (k_here; (with_reducible show LCg.CompEnd _ _ _ _ _ _ _ _ _ _ _ (Mine.RowEnd _ _ _ _) _ _); k_dflt (refine' Mine.row_end ?k1 ?k2 ?k3 ?k4 ?k5 ?k6 ?k7 ?k8 ?k9; (case k1 => assumption); (case k2 => assumption); (case k3 => ((simp only [List.nil_append, List.cons_append]); kcf_all)); (case k4 => assumption); (case k5 => (refine ⟨?_, ?_, ?_⟩ <;> k_ne)); (case k6 => ((simp only [List.map_cons, List.map_nil]); kd_adr)); (case k7 => first | exact True.intro | exact Or.inr ⟨_, by kcf_m, rfl, _, rfl⟩); (case k8 => l_ints); (case k9 => first | exact ⟨_, rfl, rfl⟩ | exact rfl)))
  k_with "CompEnd ref" => (k_here; (with_reducible show LCg.CompEnd _ _ _ _ _ _ _ _ _ _ _ (Mine.RowEnd _ _ _ _) _ _); k_dflt (refine' Mine.row_end2 ?k1 ?k2 ?k3 ?k4 ?k5 ?k7 ?k8 ?k9; (case k1 => assumption); (case k2 => assumption); (case k3 => ((simp only [List.nil_append, List.cons_append, List.append_assoc]); kcf_all)); (case k4 => assumption); (case k5 => ((rename (∀ q, q ∈ _ → _ < _) => l8); (simp only [List.nil_append, List.cons_append, List.append_assoc]); exact l8)); (case k7 => first | exact True.intro | exact Or.inr ⟨_, by kcf_m, rfl, _, rfl⟩); (case k8 => l_ints); (case k9 => first | exact ⟨_, rfl, rfl⟩ | exact rfl)))
  k_with "FinA" => (k_here; (unfold LCg.FinA); intro D' h' tk' F' N' o1'; (try simp only [List.nil_append, List.cons_append, List.append_assoc] at N'); (try simp only [List.nil_append, List.cons_append, List.append_assoc] at o1'); (try dsimp only))
  k_with "FinA" => (k_here; (unfold LCg.FinA); intro D' h' tk' F' N' o1'; (have o2' := Mine.off1_own o1'); (simp only [List.nil_append, List.cons_append] at N' o1'); (rename OwnOff _ [_] => o3'); (rename OwnOff _ (List.map _ _) => ow9); (simp only [List.map_cons, List.map_nil] at ow9); (try dsimp only))
  k_with "eval ListComp BinOp cons" => (k_here; k_dflt (refine LCg.ListComp_U (F₀ := by k_asm) (by with_unfolding_all rfl) (by decide) (by rfl) (by decide) (by rfl) ?_))
  k_with "eval ListComp Call cons" => (k_here; k_dflt (refine LCg.ListComp_U (F₀ := by k_asm) (by with_unfolding_all rfl) (by decide) (by rfl) (by decide) (by rfl) ?_))
  k_with "CompSrc Call nil ref" => (k_here; k_dflt ((refine LCg.CompSrc.ledger (by rfl) (by k_asm) (by k_asm) (by k_memK) (by (refine' Mine.size_rows ?ka ?kb ?kc ?kd; (case ka => assumption); (case kb => first | exact Mine.zf_len _ _ | exact rfl); (case kc => assumption); (case kd => omega))) ?_); intro g'; (refine Mine.compCopy0 (by assumption) (by first | exact Mine.All2.right (by assumption) | exact Mine.zf_rows _ (Mine.All2.right (by assumption))) (fun a' us' nn' ns' I' oI' C' oC' D' m' ys' tl' h' tk' E' hm' hI' hl' hC' hx' F' N' off' ne' mk1 mk2 => ?_) (fun ys' TL' ow' da' mk1 mk2 => ?_))); (all_goals (try simp only [List.nil_append, List.cons_append, List.append_assoc] at N')))
  k_with "FinE" => (k_here; (unfold LCg.FinE); intro D' h' tk' F' N' o1'; (try simp only [List.nil_append, List.cons_append, List.append_assoc] at N'); (try simp only [List.nil_append, List.cons_append, List.append_assoc] at o1'); (try dsimp only))
  k_with "FinE" => (k_here; (unfold LCg.FinE); intro D' h' tk' F' N' o1'; (have o2' := Mine.off1_own o1'); (simp only [List.nil_append, List.cons_append, List.append_assoc] at N' o1'); (rename OwnOff _ [_] => o3'); (rename OwnOff _ (List.map _ _) => ow9); (simp only [List.map_cons, List.map_nil] at ow9); (try dsimp only))
  k_with "call type:list cons nil" => (k_here; (with_reducible show wpAny _ _ (call (Value.type _) [Value.ref _]) _ _ _); k_dflt (refine Mine.copy_row (by k_asm) (by k_asm) (by assumption) (by kcf_all) (by assumption) (by assumption) ?_); intro D' c' h' F' N' l1; (have l9 := l1); (try k_lt l1); (try k_sweep))
  k_with "exec For Name Subscript cons nil" => (k_here; (rename Fr _ _ _ _ => lF'); (with_unfolding_all refine' For_invVF lF' ?k1 ?k2 ?_; (case k1 => exact rfl); (case k2 => exact rfl); k_whole))
  k_with "kd_subs" => ((try simp only [List.nil_append, List.cons_append, List.append_assoc, List.append_nil]); kcf_all)
  k_with "setItem ref int ref" => (k_here; (with_reducible show wpAny _ _ (setItem (Value.ref _) (Value.int _ _) (Value.ref _)) _ _ _); k_dflt (refine' Mine.set_rowM ?k1 ?k2 ?k3 ?k4 ?k5 ?k6 ?k7 ?k8 ?k9 ?k10 ?_; (case k1 => k_asm); (case k2 => k_asm); (case k3 => k_upd); (case k4 => k_memK); (case k5 => l_ints); (case k6 => first | rfl | decide); (case k7 => assumption); (case k8 => first | exact Mine.place_lo (by assumption) rGlo rSlo | exact Mine.home_lo (by assumption) rGlo | exact Int.le_refl 0); (case k9 => first | exact Mine.place_lt _ (by assumption) (by assumption) rGlo rSlo | exact Mine.home_lt _ (by assumption) (by assumption) (by assumption) rGlo rSlo | exact Mine.zero_lt9 (by assumption) rGlo rSlo); (case k10 => first | exact Mine.place_fit (by assumption) rGlo rSlo rGhi rShi | exact Mine.home_fit (by assumption) (by assumption) rGhi rShi | decide)); intro h' F' N' dat9; (try k_sweep))
  k_with "compareOp NotEq ref ref" => (k_here; (with_reducible show wpAny _ _ (compareOp CmpOp.NotEq (Value.ref _) (Value.ref _)) _ _ _); k_dflt (refine' Mine.ne_rows ?k1 ?k2 ?k3 ?k4 ?k5 ?k6 ?k7 ?k8 ?k9 ?k10 ?_; (case k1 => k_asm); (case k2 => k_memK); (case k3 => assumption); (case k4 => kcf_all); (case k5 => k_memK); (case k6 => assumption); (case k7 => kcf_all); (case k8 => first | exact Mine.All2.right (by assumption) | exact Mine.zf_rows _ (Mine.All2.right (by assumption))); (case k9 => first | exact Mine.zf_take _ _ (by first | omega | ((simp only [rangeKs_length]); omega)) | exact Mine.zf_none _ _ (by omega)); (case k10 => ke_room)))
  k_with "KCj cons int" => (kpf_tidy; k_dflt (refine kcj_end ?kce (by with_unfolding_all rfl) rfl (by assumption) (by assumption) (by kcf_all)); (case kce => kpf_eq))
  k_with "k_ne" => ((try dsimp only); first | (with_reducible exact Mine.off1_at (by assumption) (by kcf_m)) | (with_reducible exact (Mine.off1_at (by assumption) (by kcf_m)).symm) | (refine neN ?_; kd_ltNe) | (refine neN (Ne.symm ?_); kd_ltNe) | (with_reducible exact Mine.ne_chain (by assumption) (by assumption) (by kcf_m)) | (with_reducible exact (Mine.ne_chain (by assumption) (by assumption) (by kcf_m)).symm) | (with_reducible exact Nat.ne_of_gt (by assumption)) | (with_reducible exact Nat.ne_of_lt (by assumption)) | (refine neN ?_; omega))
  k_with "kd_adr" => first | exact List.forall_mem_nil _ | (refine List.forall_mem_cons.mpr ⟨?kdh, ?kdt⟩; (case kdh => ((try dsimp only); first | kd_ltNe | k_ne)); (case kdt => kd_adr)) | kd_adrTail
  k_with "callWith ref cons nil" => (k_here; k_dflt (refine' callWith_K0 ?k1 ?k2 ?_; (case k1 => exact Frag.In.keeps (by k_asm) (Fr.keep (by k_asm))); (case k2 => k_is); k_whole))
  k_with "k_all" => first | exact List.forall_mem_nil _ | (refine' List.forall_mem_cons.mpr ⟨?a, ?b⟩; (case a => k_ne); (case b => k_all)) | (refine List.forall_mem_append.mpr ⟨?_, ?_⟩; (focus k_all); k_all) | (with_reducible exact fun p9 h9 => Mine.off1_ne (by assumption) p9 (by kcf_m))
  k_with "call type:range cons nil" => (k_here; (rename Fr _ _ _ _ => F'); (rename News _ _ _ _ => N'); (with_unfolding_all refine range1_rows F' N' ?_; intro _ _ _ _ _ _ _ _ _))
  k_with "compareOp Eq int int" => (k_here; (with_reducible show wpAny _ _ (compareOp CmpOp.Eq (Value.int _ _) (Value.int 0 _)) _ _ _); k_dflt (first | refine Mine.eq_no (Mine.t1 (by assumption)) ?_ | refine Mine.eq_no (Mine.t3 (by assumption) rSlo) ?_ | refine Mine.eq_no (Mine.u1 (by assumption) (by assumption)) ?_ | refine Mine.eq_no (Mine.u3 (by assumption) (by assumption) (by assumption) rSlo) ?_))
  k_with "compareOp Gt int int" => (k_here; (with_reducible show wpAny _ _ (compareOp CmpOp.Gt (Value.int _ _) (Value.int 0 _)) _ _ _); k_dflt (first | refine Mine.gt_no (Mine.t1g (by assumption)) ?_ | refine Mine.gt_yes (Mine.t3g (by assumption) rSlo) ?_ | refine Mine.gt_yes (Mine.t2g (by assumption) (by assumption) rBlo) ?_ | refine Mine.gt_no (Mine.u1g (by assumption) (by assumption)) ?_ | refine Mine.gt_yes (Mine.u3g (by assumption) (by assumption) (by assumption) rSlo) ?_ | refine Mine.gt_yes (Mine.u2g (by assumption) (by assumption) (by assumption)) ?_))
  k_with "execs cons If cons" => (k_here; (with_reducible show wpAny _ _ (execs (PySem.Stmt.If _ [PySem.Stmt.Assign [PySem.Expr.Name (Str.ofString "left") _] _ _] _ _ :: _ :: _) _) _ _ _); (rename Fr _ _ _ _ => lF'); (rename News _ _ _ _ => lN'); k_dflt (refine Mine.cut_names (σ := Int × Int × Bool × Tok × Tok) (Str.ofString "zz") [] (fun c => [(Str.ofString "done", Value.int c.1 c.2.2.2.1), (Str.ofString "left", Value.int c.2.1 c.2.2.2.2), (Str.ofString "due", Value.bool c.2.2.1)]) (fun c => Mine.Bud (rB - 1) (1 + rS) c.1 c.2.1 c.2.2.1) lF' lN' [_] _ ?_ ?_); rotate_left; (clear lF' lN'; rintro ⟨dn9, lf9, du9, t91, t92⟩ h9 tk9 u9 F9 N9 bud9; (simp only [kstB, List.contains_nil, Bool.false_eq_true, if_false] at F9); (try dsimp only at F9 N9 bud9); (have dlo9 := Mine.Bud_lo bud9 (by omega)); (have dhi9 := Mine.Bud_hi bud9)))
  k_with "MidS" => k_dflt (refine' Mine.MidS.mk (⟨_, _, _, _, _⟩ : Int × Int × Bool × Tok × Tok) ?k1 ?k2 ?k3 ?k4 ?k5 ?k6; (case k1 => k_asm); (case k2 => k_asm); (case k3 => kst_all); (case k4 => kst_same); (case k5 => kcf_all); (case k6 => first | exact Mine.Bud1 (by assumption) | exact Mine.Bud2 (by assumption) (by omega) (by assumption) | exact Mine.Bud3 (by assumption)))
  k_with "execs cons If cons" => (k_here; (with_reducible show wpAny _ _ (execs (PySem.Stmt.If _ [PySem.Stmt.Assign [PySem.Expr.Name (Str.ofString "i") _] _ _, _, _, _] _ _ :: _ :: _) _) _ _ _); (rename Fr _ _ _ _ => lF'); (rename News _ _ _ _ => lN'); k_dflt (refine Mine.cutA lF' lN' [_] _ ?_ ?_); rotate_left; (clear lF' lN'; intro ln9 nv9 sv9 n91 n92 src9 sd9 h9 tk9 u9 F9 N9 lne9 lt9 da91 da92 ok9 off9; (simp only [kstB, List.contains_cons, List.contains_nil, Bool.or_false, beq_iff_eq] at F9); (try simp only [List.cons_append, List.nil_append, List.append_assoc] at N9); (try simp only [List.map_cons, List.map_append] at off9)))
  k_with "MidA" => k_dflt (first | ((refine' Mine.MidA.plain ?k1 ?k2 ?k3 ?k4 ?k5 ?k6 ?k7 ?k8 ?k9); ((case k1 => k_asm)); ((case k2 => k_asm)); ((case k3 => kst_all)); ((case k4 => kst_same)); ((case k5 => k_memK)); ((case k6 => k_memK)); ((case k7 => kcf_all)); ((case k8 => exact Mine.lt_sub (by assumption) (by kcf_all))); ((case k9 => k_ne))) | ((refine' Mine.MidA.staged ?k1 ?k2 ?k3 ?k4 ?k5 ?k6 ?m4 ?m5 ?m6 ?m2 ?i6 ?i2 ?k7 ?k8 ?k9 ?o4 ?o5 ?o6 ?o2); ((case k1 => k_asm)); ((case k2 => k_asm)); ((case k3 => kst_all)); ((case k4 => kst_same)); ((case k5 => k_memK)); ((case k6 => k_memK)); ((case m4 => k_memK)); ((case m5 => k_memK)); ((case m6 => k_memK)); ((case m2 => k_memK)); ((case i6 => l_ints)); ((case i2 => l_ints)); ((case k7 => kcf_all)); ((case k8 => exact Mine.lt_sub (by assumption) (by kcf_all))); ((case k9 => k_ne)); ((case o4 => exact Mine.off_of (by assumption) (by kcf_m) (by kcf_all) (by assumption) (by kcf_m))); ((case o5 => exact Mine.off_of (by assumption) (by kcf_m) (by kcf_all) (by assumption) (by kcf_m))); ((case o6 => exact Mine.off_of (by assumption) (by kcf_m) (by kcf_all) (by assumption) (by kcf_m))); ((case o2 => exact Mine.off_of (by assumption) (by kcf_m) (by kcf_all) (by assumption) (by kcf_m)))))
  k_with "execs cons Try cons" => (k_here; (with_reducible show wpAny _ _ (execs (PySem.Stmt.Try _ _ _ _ _ :: _ :: _) _) _ _ _); (rename Fr _ _ _ _ => lF'); (rename News _ _ _ _ => lN'); k_dflt (refine Mine.cutC lF' lN' (by assumption) lf9 du9 [_] _ ?_ ?_); rotate_left; (clear lF' lN'; intro bv9 nb9 t93 t94 n94 bl9 S9 h9 tk9 u99 F9 N9 db9 dw9; (simp only [kstB, List.contains_nil, Bool.false_eq_true, if_false] at F9); (try simp only [List.cons_append, List.nil_append, List.append_assoc] at N9)))
  k_with "kcf_all" => ((with_reducible show ∀ p : Addr × Obj, p ∈ _ → Mine.Usable (Prod.snd p) → _); first | exact List.forall_mem_nil _ | (refine List.forall_mem_cons.mpr ⟨?_, ?_⟩; (focus first | (intro u9; kcf_m) | exact fun u9 => absurd u9 Mine.no_dict | exact fun u9 => absurd u9 (Mine.no_blocks (by assumption) (by assumption) rGlo rSlo)); kcf_all) | (refine List.forall_mem_append.mpr ⟨?_, ?_⟩; (focus kcf_all); kcf_all) | (intro p hp u9; kcf_m))
  k_with "MidC" => k_dflt ((refine' Mine.MidC.mk ?k1 ?k2 ?k3 ?k4 ?k5 ?k6 ?k7 ?k8 ?k9 ?k10 ?k11 ?k12 ?k13 ?k14); ((case k1 => k_asm)); ((case k2 => k_asm)); ((case k3 => kst_all)); ((case k4 => kst_same)); ((case k5 => ((try dsimp only); kcf_all))); ((case k6 => assumption)); ((case k7 => kcf_all)); ((case k8 => assumption)); ((case k9 => exact Mine.zf_rows _ (Mine.All2.right (by assumption)))); ((case k10 => kcf_all)); ((case k11 => first | exact Mine.C1a bud9 (by assumption) rSlo | exact Mine.C2a bud9 (by assumption) (by assumption) (by assumption) rSlo | exact Mine.C3a bud9 (by assumption) rSlo)); ((case k12 => first | exact Mine.C1b bud9 (by assumption) rSlo | exact Mine.C2b bud9 (by assumption) (by assumption) (by assumption) rSlo | exact Mine.C3b bud9 (by assumption) rSlo)); ((case k13 => first | exact Mine.C1c bud9 (by assumption) rSlo | exact Mine.C2c bud9 (by assumption) (by assumption) (by assumption) (by assumption) rSlo | exact Mine.C3c bud9 (by assumption) (by assumption) rSlo)); ((case k14 => first | exact Mine.C1d bud9 (by assumption) rSlo | exact Mine.C2d bud9 (by assumption) (by assumption) (by assumption) rSlo | exact Mine.C3d bud9 (by assumption) rSlo)))
  k_with "compareOp Gt int int" => (k_here; (with_reducible show wpAny _ _ (compareOp CmpOp.Gt (Value.int (rB - 1) _) (Value.int 0 _)) _ _ _); k_dflt (refine Mine.gt_two (by assumption) (by omega) ?_ ?_ <;> intro b9))
  k_with "pyIter ref" => ((with_reducible show wpAny _ _ (pyIter (Value.ref _)) (fun it s₂ => LoopAtV _ _ _ _ _ _ [PySem.Stmt.Assign _ _ _] _ _ it s₂) _ _); k_dat (fun pre want => want = Mine.zf pre dsR9) "want*")
  k_with "pyIter ref" => ((with_reducible show wpAny _ _ (pyIter (Value.ref _)) (fun it s₂ => LoopAtV _ _ _ _ _ _ [PySem.Stmt.Expr _ _] _ _ it s₂) _ _); (rename News _ _ _ _ => lN9); (replace lN9 := Mine.keepN lN9 [true, false, false, false, false, false, false, false, false, false, false]); (simp only [Mine.keepL] at lN9); k_dat (fun pre bl bud wr => bl = Mine.zf (List.take (1 + pre.length) ([0] ++ List.map (fun k' => 1 + (1 + rG) + k') (rangeKs 0 (1 + rS - 0).toNat))) dsR9 ∧ ((rB - 1 = -1 ∧ bud = -1) ∨ (0 ≤ rB - 1 ∧ 0 ≤ bud ∧ bud = rB - 1 - (1 + (pre.length : Int)))) ∧ wr = 1 + (pre.length : Int)) "self.disk.blocks*" "self.disk.budget" "self.disk.writes")
  k_with "state" => first | exact Mine.zf_start _ | exact Mine.zf_step _ _ _ | (refine ⟨Mine.w_start _ _, ?_, ?_⟩ <;> (simp only [List.length_nil]; omega)) | (refine ⟨Mine.w_step _ (by assumption) (by assumption), ?_, Mine.wr_step (by assumption)⟩; first | exact Mine.inv_keep (by assumption) (by assumption) | exact Mine.inv_dec (Mine.u3g (by assumption) (by assumption) (by assumption) rSlo) (by assumption) | exact Mine.inv_dec (Mine.u2g (by assumption) (by assumption) (by assumption)) (by assumption))
  open_k
