/- The abstract layer, part 31: the rules by which a walk along the text goes on by itself. -/
import Derived.Test.YticccdaomgildaaGreatDoorAbs30
namespace Go.Abs
open Go
set_option linter.unusedVariables false
set_option linter.unusedSimpArgs false

section
variable {P : Program} {S : Sums}

theorem bnd_some {α : Type} (a : α) (K : α → Prop) (u : Blk K) : bnd (some a) K u = K a := propext ⟨fun ⟨b, h1, h2⟩ => by cases h1; exact h2, fun h => ⟨a, rfl, h⟩⟩
theorem ltv_eq {α : Type} (v : α) (K : α → Prop) (u : Blk K) : ltv v K u = K v := propext Iff.rfl
theorem chk_true (K : Prop) (u : Blk K) : chk True K u = K := propext ⟨fun h => h.2, fun h => ⟨trivial, h⟩⟩
theorem ifB_true (A B : Prop) (u : Blk A) (v : Blk B) : ifB (.bool true) A B u v = A := propext ⟨fun ⟨t, h1, h2, h3⟩ => by cases h1; exact h2 rfl, fun h => ⟨true, rfl, fun _ => h, (fun e => by cases e)⟩⟩
theorem ifB_false (A B : Prop) (u : Blk A) (v : Blk B) : ifB (.bool false) A B u v = B := propext ⟨fun ⟨t, h1, h2, h3⟩ => by cases h1; exact h3 rfl, fun h => ⟨false, rfl, (fun e => by cases e), fun _ => h⟩⟩
theorem ifB_of {p : Prop} [Decidable p] {A B : Prop} (ha : p → A) (hb : ¬p → B) {u : Blk A} {v : Blk B} : ifB (.bool (decide p)) A B u v := ⟨_, rfl, fun e => ha (of_decide_eq_true e), fun e => hb (of_decide_eq_false e)⟩
theorem ifB_b {b : Bool} {A B : Prop} (ha : b = true → A) (hb : b = false → B) {u : Blk A} {v : Blk B} : ifB (.bool b) A B u v := ⟨_, rfl, ha, hb⟩
theorem clsK_0 (A B C : Prop) (u : Blk A) (v : Blk B) (w : Blk C) : clsK 0 A B C u v w = C := propext Iff.rfl
theorem clsK_1 (A B C : Prop) (u : Blk A) (v : Blk B) (w : Blk C) : clsK 1 A B C u v w = C := propext Iff.rfl
theorem clsK_2 (A B C : Prop) (u : Blk A) (v : Blk B) (w : Blk C) : clsK 2 A B C u v w = A := propext Iff.rfl
theorem clsK_3 (A B C : Prop) (u : Blk A) (v : Blk B) (w : Blk C) : clsK 3 A B C u v w = B := propext Iff.rfl
theorem clsK_low {c : Nat} (hc : c = 0 ∨ c = 1) (A B C : Prop) (u : Blk A) (v : Blk B) (w : Blk C) : clsK c A B C u v w = C := by rcases hc with rfl | rfl <;> rfl
theorem clsK_bin (op : BinOp) (t : TypeId) (x y : Operand) (z : TypeId) (A B C : Prop) (u : Blk A) (v : Blk B) (w : Blk C) : clsK (clsOf P (.binOp op t x y z)) A B C u v w = C :=
  clsK_low (by simp only [clsOf]; split <;> simp) A B C u v w
theorem clsK_slice (t : TypeId) (x : Operand) (a b c : Option Operand) (A B C : Prop) (u : Blk A) (v : Blk B) (w : Blk C) : clsK (clsOf P (.slice t x a b c)) A B C u v w = C :=
  clsK_low (by simp only [clsOf]; split <;> simp) A B C u v w
theorem resK_val (h : AH) (K : AV → AH → Prop) (v : AV) (h' : AH) : resK P S h K (.val v h') = ltv v (fun v => K v h') ⟨⟩ := propext Iff.rfl
theorem resK_skip (h : AH) (K : AV → AH → Prop) (h' : AH) : resK P S h K (.skip h') = K (.tup []) h' := propext Iff.rfl
theorem resK_call (h : AH) (K : AV → AH → Prop) (f : FuncId) (a : List AV) : resK P S h K (.call f a) = callK P S f a h K ⟨⟩ := propext Iff.rfl
theorem resK_yield (h : AH) (K : AV → AH → Prop) (f : Nat) (a : List AV) : resK P S h K (.yield f a) = yldK P S f a h K ⟨⟩ := propext Iff.rfl
theorem syV_func (g : FuncId) (first captured args : List AV) (h : AH) (K : AV → AH → Prop) : syV P S (.func (.func g) first captured) args h K = callK P S g (first ++ args ++ captured) h K ⟨⟩ := propext Iff.rfl
theorem syV_yld (l : Nat) (args : List AV) (h : AH) (K : AV → AH → Prop) : syV P S (.yld l) args h K = yldK P S l args h K ⟨⟩ := propext Iff.rfl

theorem syO_move (E : Operand → AV) (x : Operand) (h : AH) (K : AV → AH → Prop) : syO P S E (.move x) h K = ltv (E x) (fun v => K v h) ⟨⟩ := propext Iff.rfl
theorem syO_assign (E : Operand → AV) (x : Operand) (h : AH) (K : AV → AH → Prop) : syO P S E (.assign x) h K = ltv (E x) (fun v => K v h) ⟨⟩ := propext Iff.rfl
theorem syO_pick (E : Operand → AV) (c a b : Operand) (h : AH) (K : AV → AH → Prop) : syO P S E (.pick c a b) h K = ifB (E c) (ltv (E a) (fun v => K v h) ⟨⟩) (ltv (E b) (fun v => K v h) ⟨⟩) ⟨⟩ ⟨⟩ := propext Iff.rfl
theorem syO_load (E : Operand → AV) (t : TypeId) (a : Operand) (h : AH) (K : AV → AH → Prop) : syO P S E (.load t a) h K = bnd (evLoad P h t (E a)) (fun v => K v h) ⟨⟩ := propext Iff.rfl
theorem syO_store (E : Operand → AV) (t : TypeId) (a x : Operand) (h : AH) (K : AV → AH → Prop) : syO P S E (.store t a x) h K = bnd (evStore P h t (E a) (E x)) (fun h' => K (.tup []) h') ⟨⟩ := propext Iff.rfl
theorem syO_build (E : Operand → AV) (t : TypeId) (ps : List (Nat × Operand)) (h : AH) (K : AV → AH → Prop) : syO P S E (.build t ps.toArray) h K = bnd (evBuild P t (ps.map fun (i, x) => (i, E x))) (fun v => K v h) ⟨⟩ := propext Iff.rfl
theorem syO_binOp (E : Operand → AV) (op : BinOp) (t : TypeId) (x y : Operand) (u : TypeId) (h : AH) (K : AV → AH → Prop) : syO P S E (.binOp op t x y u) h K = bnd (binA P h op t (E x) (E y)) (fun v => K v h) ⟨⟩ := propext Iff.rfl
theorem syO_unOp (E : Operand → AV) (op : UnOp) (t : TypeId) (x : Operand) (h : AH) (K : AV → AH → Prop) : syO P S E (.unOp op t x) h K = bnd (unA op (E x)) (fun v => K v h) ⟨⟩ := propext Iff.rfl
theorem syO_slice (E : Operand → AV) (t : TypeId) (x : Operand) (lo hi mx : Option Operand) (h : AH) (K : AV → AH → Prop) : syO P S E (.slice t x lo hi mx) h K = bnd (evSlice P h t (E x) (lo.map E) (hi.map E) (mx.map E)) (fun v => K v h) ⟨⟩ := propext Iff.rfl
theorem syO_indexAddr (E : Operand → AV) (t : TypeId) (x i : Operand) (h : AH) (K : AV → AH → Prop) : syO P S E (.indexAddr t x i) h K = bnd (evIndexAddr P t (E x) (E i)) (fun v => K v h) ⟨⟩ := propext Iff.rfl
theorem syO_index (E : Operand → AV) (t : TypeId) (x i : Operand) (h : AH) (K : AV → AH → Prop) : syO P S E (.index t x i) h K = bnd (evIndex P t (E x) (E i)) (fun v => K v h) ⟨⟩ := propext Iff.rfl
theorem syO_lookup (E : Operand → AV) (t : TypeId) (x i : Operand) (ok : Bool) (h : AH) (K : AV → AH → Prop) : syO P S E (.lookup t x i ok) h K = bnd (evLookup P h t (E x) (E i) ok) (fun v => K v h) ⟨⟩ := propext Iff.rfl
theorem syO_call (E : Operand → AV) (f : Operand) (args : List Operand) (ty : Array TypeId) (h : AH) (K : AV → AH → Prop) : syO P S E (.call { callee := .value f, args := args.toArray, argTypes := ty }) h K = ltv (E f) (fun fv => ltv (args.map E) (fun args => syV P S fv args h K) ⟨⟩) ⟨⟩ := propext Iff.rfl
theorem syO_builtin (E : Operand → AV) (b : Builtin) (args : List Operand) (ty : List TypeId) (h : AH) (K : AV → AH → Prop) : syO P S E (.call { callee := .builtin b, args := args.toArray, argTypes := ty.toArray }) h K = bnd (evCall P h E { callee := .builtin b, args := args.toArray, argTypes := ty.toArray }) (resK P S h K) ⟨⟩ := propext Iff.rfl
theorem syO_alloc (E : Operand → AV) (e : TypeId) (h : AH) (K : AV → AH → Prop) : syO P S E (.alloc e) h K = bnd (allocated h (allocA P E (.alloc e))) (resK P S h K) ⟨⟩ := propext Iff.rfl
theorem syO_box (E : Operand → AV) (e : TypeId) (x : Operand) (h : AH) (K : AV → AH → Prop) : syO P S E (.box e x) h K = bnd (allocated h (allocA P E (.box e x))) (resK P S h K) ⟨⟩ := propext Iff.rfl
theorem syO_buildSlice (E : Operand → AV) (t : TypeId) (n : Nat) (ps : List (Nat × Operand)) (h : AH) (K : AV → AH → Prop) : syO P S E (.buildSlice t n ps.toArray) h K = bnd (allocated h (allocA P E (.buildSlice t n ps.toArray))) (resK P S h K) ⟨⟩ := propext Iff.rfl
theorem syO_makeMap (E : Operand → AV) (t : TypeId) (r : Option Operand) (h : AH) (K : AV → AH → Prop) : syO P S E (.makeMap t r) h K = bnd (allocated h (allocA P E (.makeMap t r))) (resK P S h K) ⟨⟩ := propext Iff.rfl
theorem syO_makeSlice (E : Operand → AV) (t : TypeId) (l c : Operand) (h : AH) (K : AV → AH → Prop) : syO P S E (.makeSlice t l c) h K = bnd (allocated h (allocA P E (.makeSlice t l c))) (resK P S h K) ⟨⟩ := propext Iff.rfl
theorem syO_nilCheck (E : Operand → AV) (x : Operand) (h : AH) (K : AV → AH → Prop) : syO P S E (.nilCheck x) h K = bnd (evOper P E { dst := none, op := .nilCheck x, type := 0, pos := "", after := #[], guard := none } h) (resK P S h K) ⟨⟩ := propext Iff.rfl
theorem syO_convert (E : Operand → AV) (s d : TypeId) (x : Operand) (h : AH) (K : AV → AH → Prop) : syO P S E (.convert s d x) h K = bnd (evConvert P h s d (E x)) (resK P S h K) ⟨⟩ := propext Iff.rfl
theorem syO_makeInterface (E : Operand → AV) (t : TypeId) (x : Operand) (h : AH) (K : AV → AH → Prop) : syO P S E (.makeInterface t x) h K = bnd (evOper P E { dst := none, op := .makeInterface t x, type := 0, pos := "", after := #[], guard := none } h) (resK P S h K) ⟨⟩ := propext Iff.rfl
theorem syO_makeFunc (E : Operand → AV) (fn : Fn) (a c : List Operand) (h : AH) (K : AV → AH → Prop) : syO P S E (.makeFunc fn a.toArray c.toArray) h K = chk (plainFn fn = true) (ltv (.func fn (a.map E) (c.map E)) (fun v => K v h) ⟨⟩) ⟨⟩ := by
  unfold syO
  simp only [evOper]
  cases hp : plainFn fn with
  | true => simp [chk, bnd, resK, ltv]
  | false => simp [chk, bnd]
theorem syO_fieldAddr (E : Operand → AV) (t : TypeId) (x : Operand) (f : Nat) (h : AH) (K : AV → AH → Prop) : syO P S E (.fieldAddr t x f) h K = bnd (evOper P E { dst := none, op := .fieldAddr t x f, type := 0, pos := "", after := #[], guard := none } h) (resK P S h K) ⟨⟩ := propext Iff.rfl
theorem syO_field (E : Operand → AV) (t : TypeId) (x : Operand) (f : Nat) (h : AH) (K : AV → AH → Prop) : syO P S E (.field t x f) h K = bnd (evOper P E { dst := none, op := .field t x f, type := 0, pos := "", after := #[], guard := none } h) (resK P S h K) ⟨⟩ := propext Iff.rfl
theorem syO_mapUpdate (E : Operand → AV) (t : TypeId) (m k x : Operand) (h : AH) (K : AV → AH → Prop) : syO P S E (.mapUpdate t m k x) h K = bnd (evMapUpdate P h t (E m) (E k) (E x)) (resK P S h K) ⟨⟩ := propext Iff.rfl
theorem syO_insert (E : Operand → AV) (t : TypeId) (m k x : Operand) (h : AH) (K : AV → AH → Prop) : syO P S E (.insert t m k x) h K = bnd (evMapUpdate P h t (E m) (E k) (E x)) (resK P S h K) ⟨⟩ := propext Iff.rfl
theorem syO_typeAssert (E : Operand → AV) (x : Operand) (t a : TypeId) (ok : Bool) (h : AH) (K : AV → AH → Prop) : syO P S E (.typeAssert x t a ok) h K = bnd (evOper P E { dst := none, op := .typeAssert x t a ok, type := 0, pos := "", after := #[], guard := none } h) (resK P S h K) ⟨⟩ := propext Iff.rfl
theorem syO_extract (E : Operand → AV) (x : Operand) (i : Nat) (h : AH) (K : AV → AH → Prop) : syO P S E (.extract x i) h K = bnd (evOper P E { dst := none, op := .extract x i, type := 0, pos := "", after := #[], guard := none } h) (resK P S h K) ⟨⟩ := propext Iff.rfl

theorem syPut_none (n : Nat) (t : Env) (v : AV) (K : Env → Prop) : syPut n t none v K = K t := propext Iff.rfl
theorem syPut_some (n : Nat) (t : Env) (d : Tmp) (v : AV) (K : Env → Prop) : syPut n t (some d) v K = chk (d < n) (K (t.set d (some v))) ⟨⟩ := propext Iff.rfl
theorem sy1_none (n : Nat) (ops : Array Oper) (dst : Option Tmp) (op : Op) (ty : TypeId) (pos : String) (after : Array Edge) (t : Env) (h : AH) (K : Env → AH → Prop) :
    sy1 P S n ops { dst, op, type := ty, pos, after, guard := none } t h K = syO P S (opnd t) op h fun v h' => syPut n t dst v fun t' => K t' h' := rfl
theorem sy1_some (n : Nat) (ops : Array Oper) (dst : Option Tmp) (op : Op) (ty : TypeId) (pos : String) (after : Array Edge) (g : Nat × Bool) (t : Env) (h : AH) (K : Env → AH → Prop) :
    sy1 P S n ops { dst, op, type := ty, pos, after, guard := some g } t h K = bnd (wantedA ops t { dst, op := .move (.tmp 0), type := ty, pos, after, guard := some g }) (fun b => ifB (.bool b) (syO P S (opnd t) op h fun v h' => syPut n t dst v fun t' => K t' h') (syPut n t dst (.tup []) fun t' => K t' h) ⟨⟩ ⟨⟩) ⟨⟩ := rfl
theorem syOps_nil (n : Nat) (ops : Array Oper) (t : Env) (h : AH) (K : Env → AH → Prop) : syOps P S n ops [] t h K = K t h := propext Iff.rfl
theorem syOps_cons (n : Nat) (ops : Array Oper) (o : Oper) (r : List Oper) (t : Env) (h : AH) (K : Env → AH → Prop) : syOps P S n ops (o :: r) t h K = sy1 P S n ops o t h fun t' h' => syOps P S n ops r t' h' K := propext Iff.rfl
theorem syGo0_nil (n : Nat) (ops : Array Oper) (base i : Nat) (t : Env) (h : AH) (pend : List (Nat × AO)) (K : Env → AH → Prop) : syGo0 P S n ops base [] i t h pend K = K t (absorb pend h) := propext Iff.rfl
theorem syGo0_cons (n : Nat) (ops : Array Oper) (base i : Nat) (o : Oper) (r : List Oper) (t : Env) (h : AH) (pend : List (Nat × AO)) (K : Env → AH → Prop) :
    syGo0 P S n ops base (o :: r) i t h pend K = syDS P S n ops base i o t h pend fun t' h' pend' => syGo0 P S n ops base r (i + 1) t' h' pend' K := rfl
theorem syDS_none (n : Nat) (ops : Array Oper) (base i : Nat) (dst : Option Tmp) (op : Op) (ty : TypeId) (pos : String) (after : Array Edge) (t : Env) (h : AH) (pend : List (Nat × AO)) (K : Env → AH → List (Nat × AO) → Prop) :
    syDS P S n ops base i { dst, op, type := ty, pos, after, guard := none } t h pend K = clsK (clsOf P op)
      (bnd (allocA P (opnd t) op) (fun x => syPut n t dst (x.2 (base + i)) fun t' => K t' h (pend ++ [(base + i, x.1)])) ⟨⟩)
      (syO P S (opnd t) op (absorb pend h) fun v h' => syPut n t dst v fun t' => K t' h' [])
      (syO P S (opnd t) op h fun v _ => syPut n t dst v fun t' => K t' h pend) ⟨⟩ ⟨⟩ ⟨⟩ := by
  have h1 : ∀ (c : Nat) (A A' B C : Prop) (u : Blk A) (u' : Blk A') (v : Blk B) (w : Blk C), A = A' → clsK c A B C u v w = clsK c A' B C u' v w := by
    intro c A A' B C u u' v w h
    subst h
    rfl
  refine h1 _ _ _ _ _ _ _ _ _ ?_
  show bnd (some true) _ _ = _
  rw [bnd_some, ifB_true]

theorem syC_skip (r : Option Nat) (fn n : Nat) (s : St) (Q : Ex → St → Prop) : syC P S r fn n .skip s Q = Q .normal s := propext Iff.rfl
theorem syC_ret (r : Option Nat) (fn n : Nat) (s : St) (Q : Ex → St → Prop) : syC P S r fn n .ret s Q = Q .ret s := propext Iff.rfl
theorem syC_exit (r : Option Nat) (fn n id : Nat) (s : St) (Q : Ex → St → Prop) : syC P S r fn n (.exit id) s Q = Q (.exit id) s := propext Iff.rfl
theorem syC_region (r : Option Nat) (fn n id : Nat) (l : List Oper) (t : Env) (h : AH) (d : List Nat) (Q : Ex → St → Prop) : syC P S r fn n (.region id l.toArray false) { t, h, d } Q = syOps P S n l.toArray l t h fun t h => Q .normal { t, h, d } := propext Iff.rfl
theorem syC_draw (r : Option Nat) (fn n id : Nat) (l : List Oper) (t : Env) (h : AH) (d : List Nat) (Q : Ex → St → Prop) : syC P S r fn n (.region id l.toArray true) { t, h, d } Q = syDraw P S n l.toArray t h (fun t h => Q .normal { t, h, d }) ⟨⟩ ⟨⟩ ⟨⟩ ⟨⟩ := propext Iff.rfl
theorem syC_seq (r : Option Nat) (fn n : Nat) (a b : Code) (s : St) (Q : Ex → St → Prop) : syC P S r fn n (.seq a b) s Q = syC P S r fn n a s (thenK (fun s' => syC P S r fn n b s' Q) Q) := propext Iff.rfl
theorem syC_cond (r : Option Nat) (fn n : Nat) (c : Operand) (a b : Code) (t : Env) (h : AH) (d : List Nat) (Q : Ex → St → Prop) : syC P S r fn n (.cond c a b) { t, h, d } Q = ifB (opnd t c) (syC P S r fn n a { t, h, d } Q) (syC P S r fn n b { t, h, d } Q) ⟨⟩ ⟨⟩ := propext Iff.rfl
theorem syC_block (r : Option Nat) (fn n id : Nat) (c : Code) (s : St) (Q : Ex → St → Prop) : syC P S r fn n (.block id c) s Q = syC P S r fn n c s (blkK id Q) := propext Iff.rfl
theorem syC_loop (r : Option Nat) (fn n : Nat) (c : Code) (s : St) (Q : Ex → St → Prop) : syC P S r fn n (.loop c) s Q = loopK P S r fn n c s Q ⟨⟩ ⟨⟩ ⟨⟩ := propext Iff.rfl
theorem syC_range (r : Option Nat) (fn n : Nat) (g : Operand) (ps : Array Tmp) (a b : Code) (t : Env) (h : AH) (d : List Nat) (Q : Ex → St → Prop) : syC P S r fn n (.rangeFunc g ps a b) { t, h, d } Q = bnd (loopHead r { t, h, d }) (fun x => ltv (opnd t g) (fun gv => rngK P S t fn n ps a b Q x gv) ⟨⟩) ⟨⟩ := propext Iff.rfl
theorem thenK_normal (A : St → Prop) (Q : Ex → St → Prop) (s : St) : thenK A Q .normal s = A s := propext Iff.rfl
theorem thenK_ret (A : St → Prop) (Q : Ex → St → Prop) (s : St) : thenK A Q .ret s = Q .ret s := propext Iff.rfl
theorem thenK_exit (A : St → Prop) (Q : Ex → St → Prop) (i : Nat) (s : St) : thenK A Q (.exit i) s = Q (.exit i) s := propext Iff.rfl
theorem blkK_normal (id : Nat) (Q : Ex → St → Prop) (s : St) : blkK id Q .normal s = Q .normal s := propext Iff.rfl
theorem blkK_ret (id : Nat) (Q : Ex → St → Prop) (s : St) : blkK id Q .ret s = Q .ret s := propext Iff.rfl
theorem blkK_exit (id j : Nat) (Q : Ex → St → Prop) (s : St) : blkK id Q (.exit j) s = ltv (Nat.beq j id) (fun b => Q (cond b .normal (.exit j)) s) ⟨⟩ := propext Iff.rfl
theorem rngK_func (t : Env) (fn n : Nat) (ps : Array Tmp) (a b : Code) (Q : Ex → St → Prop) (d : Nat) (h1 : AH) (ds : List Nat) (f : FuncId) (first captured : List AV) :
    rngK P S t fn n ps a b Q (d, h1, ds) (.func (.func f) first captured) = chk (bodied P f = true) (callK P S f (first ++ [.yld h1.nx] ++ captured) (h1.new (.loop .ready none fn t n ps a b d)) (fun _ h3 => bnd (loopTail t ds h1.nx h3) (fun y => Q y.1 y.2) ⟨⟩) ⟨⟩) ⟨⟩ := rfl
theorem syEnd_ret (rs : List ResultVar) (Q : AV → AH → Prop) (t : Env) (h : AH) (d : List Nat) : syEnd P rs Q .ret { t, h, d } = bnd (takeMarks d h) (fun h' => bnd (resultsA P h' t rs) (fun v => Q v h') ⟨⟩) ⟨⟩ := propext Iff.rfl
theorem syEnd_normal (rs : List ResultVar) (Q : AV → AH → Prop) (t : Env) (h : AH) (d : List Nat) : syEnd P rs Q .normal { t, h, d } = bnd (takeMarks d h) (fun h' => bnd (resultsA P h' t rs) (fun v => Q v h') ⟨⟩) ⟨⟩ := propext Iff.rfl
theorem takeMarks_nil (h : AH) : takeMarks [] h = some h := rfl
theorem resultsA_one (h : AH) (t : Env) (r : ResultVar) : resultsA P h t [r] = resultA P h t r := by
  unfold resultsA
  cases hh : resultA P h t r with
  | none => simp [hh]
  | some v => simp [hh]
theorem resultsA_nil (h : AH) (t : Env) : resultsA P h t [] = some (.tup []) := rfl
theorem resultsA_two (h : AH) (t : Env) (r s : ResultVar) : resultsA P h t [r, s] = (resultA P h t r).bind fun x => (resultA P h t s).bind fun y => some (.tup [x, y]) := by
  unfold resultsA
  cases hh : resultA P h t r with
  | none => simp [hh]
  | some v => cases hs : resultA P h t s with
    | none => simp [hh, hs]
    | some u => simp [hh, hs]
theorem resultsA_three (h : AH) (t : Env) (r s q : ResultVar) : resultsA P h t [r, s, q] = (resultA P h t r).bind fun x => (resultA P h t s).bind fun y => (resultA P h t q).bind fun z => some (.tup [x, y, z]) := by
  unfold resultsA
  cases hh : resultA P h t r with
  | none => simp [hh]
  | some v => cases hs : resultA P h t s with
    | none => simp [hh, hs]
    | some u => cases hq : resultA P h t q with
      | none => simp [hh, hs, hq]
      | some z => simp [hh, hs, hq]
theorem resultA_tmp (h : AH) (t : Env) (i : Nat) : resultA P h t (.tmp i) = some ((t.get i).getD .junk) := rfl
theorem resultA_cell (h : AH) (t : Env) (a : Nat) (ty : TypeId) : resultA P h t (.cell a ty) = evLoad P h ty ((t.get a).getD .junk) := rfl

theorem opnd_tmp (t : Env) (i : Nat) : opnd t (.tmp i) = (t.get i).getD .junk := rfl
theorem opnd_func (t : Env) (i : Nat) : opnd t (.func i) = .func (.func i) [] [] := rfl
theorem opnd_const (t : Env) (v : Value) : opnd t (.const v) = toAV v := rfl
theorem toAV_int (k : IntKind) (n : Int) : toAV (.int k n) = .int k n := rfl
theorem toAV_bool (b : Bool) : toAV (.bool b) = .bool b := rfl
theorem toAV_str (s : ByteArray) : toAV (.string s) = .str (bytesOf s) := rfl
theorem toAV_nilsl : toAV (.slice none 0 0) = .nilsl := rfl
theorem toAV_nilptr : toAV (.pointer none) = .nilptr := rfl
theorem toAV_nilmap : toAV (.map none) = .nilmap := rfl
theorem toAV_nilfunc : toAV .nilFunc = .nilfunc := rfl
theorem toAV_nilif : toAV .nilIface = .nilif := rfl

theorem binA_add (h : AH) (t : TypeId) (k : IntKind) (a b : Int) : binA P h .add t (.int k a) (.int k b) = some (.int k (k.wrap (a + b))) := by simp [binA, intA]
theorem binA_sub (h : AH) (t : TypeId) (k : IntKind) (a b : Int) : binA P h .sub t (.int k a) (.int k b) = some (.int k (k.wrap (a - b))) := by simp [binA, intA]
theorem binA_mul (h : AH) (t : TypeId) (k : IntKind) (a b : Int) : binA P h .mul t (.int k a) (.int k b) = some (.int k (k.wrap (a * b))) := by simp [binA, intA]
theorem binA_quo (h : AH) (t : TypeId) (k : IntKind) (a b : Int) : binA P h .quo t (.int k a) (.int k b) = if b = 0 then none else some (.int k (k.wrap (a.tdiv b))) := by simp [binA, intA]
theorem binA_rem (h : AH) (t : TypeId) (k : IntKind) (a b : Int) : binA P h .rem t (.int k a) (.int k b) = if b = 0 then none else some (.int k (a.tmod b)) := by simp [binA, intA]
theorem binA_and (h : AH) (t : TypeId) (k : IntKind) (a b : Int) : binA P h .and t (.int k a) (.int k b) = some (.int k (k.wrap (BitVec.ofInt k.bits a &&& BitVec.ofInt k.bits b).toNat)) := by simp [binA, intA]
theorem binA_or (h : AH) (t : TypeId) (k : IntKind) (a b : Int) : binA P h .or t (.int k a) (.int k b) = some (.int k (k.wrap (BitVec.ofInt k.bits a ||| BitVec.ofInt k.bits b).toNat)) := by simp [binA, intA]
theorem binA_xor (h : AH) (t : TypeId) (k : IntKind) (a b : Int) : binA P h .xor t (.int k a) (.int k b) = some (.int k (k.wrap (BitVec.ofInt k.bits a ^^^ BitVec.ofInt k.bits b).toNat)) := by simp [binA, intA]
theorem binA_eql (h : AH) (t : TypeId) (k : IntKind) (a b : Int) : binA P h .eql t (.int k a) (.int k b) = some (.bool (decide (a = b))) := by simp [binA, intA]; rfl
theorem binA_neq (h : AH) (t : TypeId) (k : IntKind) (a b : Int) : binA P h .neq t (.int k a) (.int k b) = some (.bool (decide (a ≠ b))) := by simp [binA, intA, bne]; rfl
theorem binA_lss (h : AH) (t : TypeId) (k : IntKind) (a b : Int) : binA P h .lss t (.int k a) (.int k b) = some (.bool (decide (a < b))) := by simp [binA, intA]
theorem binA_leq (h : AH) (t : TypeId) (k : IntKind) (a b : Int) : binA P h .leq t (.int k a) (.int k b) = some (.bool (decide (a ≤ b))) := by simp [binA, intA]
theorem binA_gtr (h : AH) (t : TypeId) (k : IntKind) (a b : Int) : binA P h .gtr t (.int k a) (.int k b) = some (.bool (decide (b < a))) := by simp [binA, intA]
theorem binA_geq (h : AH) (t : TypeId) (k : IntKind) (a b : Int) : binA P h .geq t (.int k a) (.int k b) = some (.bool (decide (b ≤ a))) := by simp [binA, intA]
theorem binA_shl (h : AH) (t : TypeId) (k k' : IntKind) (a b : Int) : binA P h .shl t (.int k a) (.int k' b) = if b < 0 then none else some (.int k (k.wrap (a * 2 ^ (min b.toNat k.bits)))) := by simp [binA, shiftA]
theorem binA_shr (h : AH) (t : TypeId) (k k' : IntKind) (a b : Int) : binA P h .shr t (.int k a) (.int k' b) = if b < 0 then none else some (.int k (a.fdiv (2 ^ (min b.toNat k.bits)))) := by simp [binA, shiftA]
theorem unA_not (b : Bool) : unA .not (.bool b) = some (.bool !b) := rfl
theorem unA_neg (k : IntKind) (n : Int) : unA .neg (.int k n) = some (.int k (k.wrap (0 - n))) := rfl

theorem bq_t (b : Bool) : (b == true) = b := by cases b <;> rfl
theorem bq_f (b : Bool) : (b == false) = !b := by cases b <;> rfl
theorem wrap64_id {n : Int} (h1 : -9223372036854775808 ≤ n) (h2 : n ≤ 9223372036854775807) : IntKind.i64.wrap n = n := by
  simp only [IntKind.wrap, IntKind.bits, IntKind.signed]
  simp
  try omega

theorem callK_of {f : FuncId} {args : List AV} {h : AH} {Q K : AV → AH → Prop} {u : Blk K} (hx : RnC P S f args h Q) (hq : ∀ v h', Q v h' → K v h') : callK P S f args h K u := hx.mono hq
theorem yldK_of {f : Nat} {args : List AV} {h : AH} {Q K : AV → AH → Prop} {u : Blk K} (hx : RnR P S f args h Q) (hq : ∀ v h', Q v h' → K v h') : yldK P S f args h K u := hx.mono hq
theorem loopK_of {r : Option Nat} {fn n : Nat} {c : Code} {s : St} {Q K : Ex → St → Prop} {u : Blk c} {v : Blk s} {w : Blk K} (hx : RnL P S r fn n c s Q) (hq : ∀ ex s', Q ex s' → K ex s') : loopK P S r fn n c s K u v w := hx.mono hq

/-- The cells of a type's zero value. -/
noncomputable def zeroC (P : Program) (t : TypeId) : Option (List AV) := (tzero P t).bind fun z => cellsA (toAV z)
theorem allocA_alloc (E : Operand → AV) (e : TypeId) : allocA P E (.alloc e) = (zeroC P e).bind fun cs => some (.cells cs true cs.isEmpty, fun id => .ptr id 0) := by
  simp only [allocA, zeroC]
  cases tzero P e <;> rfl
theorem allocA_box (E : Operand → AV) (e : TypeId) (x : Operand) : allocA P E (.box e x) = (cellsA (E x)).bind fun cs => some (.cells cs true cs.isEmpty, fun id => .ptr id 0) := rfl
theorem allocA_buildSlice (E : Operand → AV) (t : TypeId) (n : Nat) (ps : List (Nat × Operand)) : allocA P E (.buildSlice t n ps.toArray) = bsA P t n (ps.map fun (i, x) => (i, E x)) := rfl
theorem allocA_makeSlice (E : Operand → AV) (t : TypeId) (l c : Operand) : allocA P E (.makeSlice t l c) = msA P t (E l) (E c) := rfl
theorem allocA_makeMap (E : Operand → AV) (t : TypeId) : allocA P E (.makeMap t none) = some (.map [] [] 0, .map) := by simp [allocA]
theorem bsA_eq (t : TypeId) (len : Nat) (parts : List (Nat × AV)) : bsA P t len parts = (match P.underlying t with
    | some (.slice e) => (tsize P e).bind fun sz => if len * sz > 2 ^ 24 then none else (zeroC P e).bind fun zc => if zc.length = sz then (fillA (fun i => some (i * sz, sz)) (repCells zc len) parts).bind fun cells => some (.cells cells true (len * sz == 0), fun id => .sl id 0 len sz (some len)) else none
    | _ => none) := by
  unfold bsA zeroC
  cases P.underlying t with
  | none => rfl
  | some d =>
    cases d <;> try rfl
    rename_i e
    simp only [Option.bind_eq_bind]
    cases tsize P e with
    | none => rfl
    | some sz =>
      simp only [Option.bind_some]
      split
      · rfl
      · cases tzero P e <;> rfl
theorem allocated_some (h : AH) (ob : AO) (mk : Nat → AV) : allocated h (some (ob, mk)) = some (.val (mk h.nx) (h.new ob)) := rfl
theorem evBuild_eq (t : TypeId) (parts : List (Nat × AV)) : evBuild P t parts = (zeroC P t).bind fun zc => match P.underlying t with
    | some (.struct fs) => (fieldsA P fs.toList).bind fun places => (fillA (places[·]?) zc parts).bind fun cells => some (.agg cells)
    | some (.array _ e) => (tsize P e).bind fun sz => (fillA (fun i => some (i * sz, sz)) zc parts).bind fun cells => some (.agg cells)
    | _ => none := by
  unfold evBuild zeroC
  cases tzero P t with
  | none => rfl
  | some z =>
    simp only [Option.bind_eq_bind, Option.bind_some]
    cases cellsA (toAV z) with
    | none => rfl
    | some zc =>
      simp only [Option.bind_some]
      cases P.underlying t with
      | none => rfl
      | some d => cases d <;> rfl

/-- A function is entered; the number of its temporaries is named. -/
theorem RnC.enter' {f : FuncId} {args : List AV} {h : AH} {Q : AV → AH → Prop} (fn : Func) (c : Code) (n : Nat) (rs : List ResultVar) (hs : S f args h = none) (hb : bodied P f = true) (hf : P.funcs[f]? = some fn) (hc : fn.body = some c) (hn : nTmps fn args = n)
    (hr : fn.results.toList = rs) (hw : syC P S none f n c { t := argsEnv args 0 .nil, h, d := [] } (syEnd P rs Q)) : RnC P S f args h Q := by
  subst hn; subst hr
  exact RnC.enter fn c hs hb hf hc hw
end
end Go.Abs
