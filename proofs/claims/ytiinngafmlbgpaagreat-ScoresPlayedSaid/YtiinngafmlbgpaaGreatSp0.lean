/- A run on an abstract store, proved right for every world, and the functions of the law walked by it: part 1 of 7. -/
import Derived.CallsIn
import Derived.RangeFuncLeaves
import Derived.OrdersIn
import Derived.LoopNIn
import Derived.Below
import Derived.Laws.World
import Derived.Laws.Entries
import Derived.RangeFuncCalls
set_option linter.unusedSimpArgs false
set_option linter.unusedVariables false
/- part AxA -/
section
/- Values and stores of an abstract run, and how they stand for the model's: plain facts, no program in sight. -/
namespace Go.Ax

/-! lists, in the kernel's own steps -/
noncomputable def lget {α : Type} (l : List α) (n : Nat) : Option α :=
  List.rec (motive := fun _ => Nat → Option α) (fun _ => none) (fun a _ ih n => Nat.rec (motive := fun _ => Option α) (some a) (fun m _ => ih m) n) l n
theorem lget_eq {α : Type} : ∀ (l : List α) (n : Nat), lget l n = l[n]? := by
  intro l
  induction l with
  | nil => intro n; rfl
  | cons a l ih =>
    intro n
    cases n with
    | zero => rfl
    | succ n => rw [List.getElem?_cons_succ, ← ih n]; rfl
noncomputable def lset {α : Type} (l : List α) (n : Nat) (v : α) : List α :=
  List.rec (motive := fun _ => Nat → List α) (fun _ => []) (fun a l ih n => Nat.rec (motive := fun _ => List α) (v :: l) (fun m _ => a :: ih m) n) l n
theorem lset_eq {α : Type} : ∀ (l : List α) (n : Nat) (v : α), lset l n v = l.set n v := by
  intro l
  induction l with
  | nil => intro n v; rfl
  | cons a l ih =>
    intro n v
    cases n with
    | zero => rfl
    | succ n => rw [List.set_cons_succ, ← ih n v]; rfl
noncomputable def lapp {α : Type} (l k : List α) : List α := List.rec (motive := fun _ => List α) k (fun a _ ih => a :: ih) l
theorem lapp_eq {α : Type} : ∀ (l k : List α), lapp l k = l ++ k := by
  intro l
  induction l with
  | nil => intro k; rfl
  | cons a l ih => intro k; rw [List.cons_append, ← ih k]; rfl
noncomputable def lrep {α : Type} (n : Nat) (a : α) : List α := Nat.rec (motive := fun _ => List α) [] (fun _ ih => a :: ih) n
theorem lrep_eq {α : Type} : ∀ (n : Nat) (a : α), lrep n a = List.replicate n a := by
  intro n
  induction n with
  | zero => intro a; rfl
  | succ n ih => intro a; rw [List.replicate_succ, ← ih a]; rfl

def BIG : Nat := 9223372036854775808
def scalar : Value → Bool
  | .bool _ => true
  | .int _ _ => true
  | .float _ _ => true
  | .complex _ _ _ => true
  | .string _ => true
  | .pointer none => true
  | .slice none _ _ => true
  | .map none => true
  | .nilFunc => true
  | .nilIface => true
  | _ => false

abbrev Env := Nat → Option (Nat × Nat)
def Env.le (E E' : Env) : Prop := ∀ i x, E i = some x → E' i = some x
theorem Env.le.refl (E : Env) : E.le E := fun _ _ h => h
theorem Env.le.trans {E E' E'' : Env} (h : E.le E') (h' : E'.le E'') : E.le E'' := fun i x hx => h' i x (h i x hx)
def Env.upd (E : Env) (n : Nat) (x : Nat × Nat) : Env := fun i => if i = n then some x else E i
theorem Env.upd_le {E : Env} {n : Nat} {x : Nat × Nat} (h : E n = none) : E.le (E.upd n x) := by
  intro i y hy
  unfold Env.upd
  by_cases e : i = n
  · subst e; rw [h] at hy; cases hy
  · rw [if_neg e]; exact hy
theorem Env.upd_same (E : Env) (n : Nat) (x : Nat × Nat) : E.upd n x n = some x := by simp [Env.upd]

def zc : Option Nat → Nat
  | none => 0
  | some s => s + 1
theorem zc_inj {x y : Option Nat} (h : zc x = zc y) : x = y := by
  cases x <;> cases y <;> simp [zc] at h ⊢
  exact h
def capOf (κ c : Nat) : Nat := if c < BIG then c else κ - (c - BIG)

inductive FnR (E : Env) : Fn → Fn → Prop
  | func (f : FuncId) : FnR E (.func f) (.func f)
  | method (m : String) : FnR E (.method m) (.method m)
  | yield {l l' κ : Nat} (h : E l = some (l', κ)) : FnR E (.yield l) (.yield l')

mutual
inductive VR (E : Env) : Value → Value → Prop
  | sc {v : Value} (h : scalar v = true) : VR E v v
  | ptr {b b' κ : Nat} (o : Nat) (h : E b = some (b', κ)) : VR E (.pointer (some ⟨b, o, none⟩)) (.pointer (some ⟨b', o, none⟩))
  | sl {b b' κ : Nat} (o l c : Nat) (h : E b = some (b', κ)) : VR E (.slice (some ⟨b, o, none⟩) l c) (.slice (some ⟨b', o, none⟩) l (capOf κ c))
  | emp {b b' κ : Nat} (o z c : Nat) (h : E b = some (b', κ)) (hc : c < BIG + BIG) : VR E (.slice (some ⟨b, o, some z⟩) 0 c) (.slice (some ⟨b', if capOf κ c = 0 then o - z else o, none⟩) 0 (capOf κ c))
  | dang {b o z c : Nat} (a : Addr) (h1 : b = a.block) (h2 : o = a.off) (h3 : z = zc a.spot) (h4 : c = BIG + BIG) : VR E (.slice (some ⟨b, o, some z⟩) 0 c) (.slice (some a) 0 0)
  | map {b b' κ : Nat} (h : E b = some (b', κ)) : VR E (.map (some b)) (.map (some b'))
  | func {fn fn' : Fn} {xs xs' ys ys' : List Value} (h : FnR E fn fn') (h1 : VRs E xs xs') (h2 : VRs E ys ys') : VR E (.func fn ⟨xs⟩ ⟨ys⟩) (.func fn' ⟨xs'⟩ ⟨ys'⟩)
  | iface (t : TypeId) {v v' : Value} (h : VR E v v') : VR E (.iface t v) (.iface t v')
  | agg {xs xs' : List Value} (h : VRs E xs xs') : VR E (.agg ⟨xs⟩) (.agg ⟨xs'⟩)
  | tuple {xs xs' : List Value} (h : VRs E xs xs') : VR E (.tuple ⟨xs⟩) (.tuple ⟨xs'⟩)
inductive VRs (E : Env) : List Value → List Value → Prop
  | nil : VRs E [] []
  | cons {x x' : Value} {xs xs' : List Value} (h : VR E x x') (h1 : VRs E xs xs') : VRs E (x :: xs) (x' :: xs')
end

theorem FnR.mono {E E' : Env} (hE : E.le E') {f f' : Fn} (h : FnR E f f') : FnR E' f f' := by
  cases h with
  | func f => exact .func f
  | method m => exact .method m
  | yield h => exact .yield (hE _ _ h)

mutual
theorem VR.mono {E E' : Env} (hE : E.le E') : ∀ {v v' : Value}, VR E v v' → VR E' v v'
  | _, _, .sc h => .sc h
  | _, _, .ptr o h => .ptr o (hE _ _ h)
  | _, _, .sl o l c h => .sl o l c (hE _ _ h)
  | _, _, .emp o z c h hc => .emp o z c (hE _ _ h) hc
  | _, _, .dang a h1 h2 h3 h4 => .dang a h1 h2 h3 h4
  | _, _, .map h => .map (hE _ _ h)
  | _, _, .func h h1 h2 => .func (h.mono hE) (VRs.mono hE h1) (VRs.mono hE h2)
  | _, _, .iface t h => .iface t (VR.mono hE h)
  | _, _, .agg h => .agg (VRs.mono hE h)
  | _, _, .tuple h => .tuple (VRs.mono hE h)
theorem VRs.mono {E E' : Env} (hE : E.le E') : ∀ {vs vs' : List Value}, VRs E vs vs' → VRs E' vs vs'
  | _, _, .nil => .nil
  | _, _, .cons h h1 => .cons (VR.mono hE h) (VRs.mono hE h1)
end

section lists
variable {E : Env}
theorem VRs.length {xs ys : List Value} (h : VRs E xs ys) : xs.length = ys.length := by
  induction xs generalizing ys with
  | nil => cases h; rfl
  | cons x xs ih => cases h with | cons h h1 => simp [ih h1]
theorem VRs.get {xs ys : List Value} (h : VRs E xs ys) {i : Nat} {x : Value} (hx : xs[i]? = some x) : ∃ y, ys[i]? = some y ∧ VR E x y := by
  induction xs generalizing ys i with
  | nil => simp at hx
  | cons a xs ih =>
    cases h with
    | cons h h1 =>
      cases i with
      | zero => simp at hx; subst hx; exact ⟨_, rfl, h⟩
      | succ i => simp at hx; obtain ⟨y, hy, hr⟩ := ih h1 hx; exact ⟨y, by simpa using hy, hr⟩
theorem VRs.getD {xs ys : List Value} (h : VRs E xs ys) (i : Nat) {d d' : Value} (hd : VR E d d') : VR E (xs.getD i d) (ys.getD i d') := by
  by_cases hi : i < xs.length
  · obtain ⟨y, hy, hr⟩ := h.get (List.getElem?_eq_getElem hi)
    simp only [List.getD_eq_getElem?_getD, List.getElem?_eq_getElem hi, hy, Option.getD_some]; exact hr
  · have hj : ys.length ≤ i := by rw [← h.length]; omega
    simp only [List.getD_eq_getElem?_getD, List.getElem?_eq_none (Nat.le_of_not_lt hi), List.getElem?_eq_none hj, Option.getD_none]; exact hd
theorem VRs.set {xs ys : List Value} (h : VRs E xs ys) (i : Nat) {v v' : Value} (hv : VR E v v') : VRs E (xs.set i v) (ys.set i v') := by
  induction xs generalizing ys i with
  | nil => cases h; exact .nil
  | cons a xs ih =>
    cases h with
    | cons h h1 =>
      cases i with
      | zero => exact .cons hv h1
      | succ i => exact .cons h (ih h1 i)
theorem VRs.append {xs ys xs' ys' : List Value} (h : VRs E xs ys) (h' : VRs E xs' ys') : VRs E (xs ++ xs') (ys ++ ys') := by
  induction xs generalizing ys with
  | nil => cases h; exact h'
  | cons a xs ih => cases h with | cons h h1 => exact .cons h (ih h1)
theorem VRs.take {xs ys : List Value} (h : VRs E xs ys) (n : Nat) : VRs E (xs.take n) (ys.take n) := by
  induction xs generalizing ys n with
  | nil => cases h; simpa using VRs.nil
  | cons a xs ih =>
    cases h with
    | cons h h1 => cases n with
      | zero => exact .nil
      | succ n => exact .cons h (ih h1 n)
theorem VRs.drop {xs ys : List Value} (h : VRs E xs ys) (n : Nat) : VRs E (xs.drop n) (ys.drop n) := by
  induction xs generalizing ys n with
  | nil => cases h; simpa using VRs.nil
  | cons a xs ih =>
    cases h with
    | cons h h1 => cases n with
      | zero => exact .cons h h1
      | succ n => exact ih h1 n
theorem VRs.replicate {v v' : Value} (h : VR E v v') (n : Nat) : VRs E (List.replicate n v) (List.replicate n v') := by
  induction n with
  | zero => exact .nil
  | succ n ih => exact .cons h ih
theorem VRs.one {v v' : Value} (h : VR E v v') : VRs E [v] [v'] := .cons h .nil
end lists

/-- all scalars: the same on both sides -/
def scalars (l : List Value) : Bool := l.all scalar
theorem VRs.of_scalars {E : Env} : ∀ {l : List Value}, scalars l = true → VRs E l l
  | [], _ => .nil
  | x :: l, h => by
    simp only [scalars, List.all_cons, Bool.and_eq_true] at h
    exact .cons (.sc h.1) (VRs.of_scalars (by simpa [scalars] using h.2))
theorem VR.scalar_eq {E : Env} {v v' : Value} (h : VR E v v') (hs : scalar v = true) : v' = v := by
  cases h <;> first | rfl | (simp [scalar] at hs)
theorem VRs.scalars_eq {E : Env} {l l' : List Value} (h : VRs E l l') (hs : scalars l = true) : l' = l := by
  induction l generalizing l' with
  | nil => cases h; rfl
  | cons x l ih =>
    simp only [scalars, List.all_cons, Bool.and_eq_true] at hs
    cases h with
    | cons h h1 => rw [h.scalar_eq hs.1, ih h1 (by simpa [scalars] using hs.2)]

/-- a value without addresses, two levels deep -/
def plain1 : Value → Bool
  | .agg cs => scalars cs.toList
  | .tuple cs => scalars cs.toList
  | .iface _ v => scalar v
  | .func (.func _) xs ys => scalars xs.toList && scalars ys.toList
  | .func (.method _) xs ys => scalars xs.toList && scalars ys.toList
  | v => scalar v
def plains1 (l : List Value) : Bool := l.all plain1
def plain : Value → Bool
  | .agg cs => plains1 cs.toList
  | .tuple cs => plains1 cs.toList
  | .iface _ v => plain1 v
  | v => plain1 v

theorem VR.plain1_eq {E : Env} {v v' : Value} (h : VR E v v') (hs : plain1 v = true) : v' = v := by
  cases h with
  | sc _ => rfl
  | ptr o h => simp [plain1, scalar] at hs
  | sl o l c h => simp [plain1, scalar] at hs
  | emp o z c h hc => simp [plain1, scalar] at hs
  | dang a h1 h2 h3 h4 => simp [plain1, scalar] at hs
  | map h => simp [plain1, scalar] at hs
  | func h h1 h2 =>
    cases h with
    | func f => simp only [plain1, Bool.and_eq_true] at hs; rw [h1.scalars_eq hs.1, h2.scalars_eq hs.2]
    | method f => simp only [plain1, Bool.and_eq_true] at hs; rw [h1.scalars_eq hs.1, h2.scalars_eq hs.2]
    | yield h => simp [plain1, scalar] at hs
  | iface t h => simp only [plain1] at hs; rw [h.scalar_eq hs]
  | agg h => simp only [plain1] at hs; rw [h.scalars_eq hs]
  | tuple h => simp only [plain1] at hs; rw [h.scalars_eq hs]
theorem VRs.plains1_eq {E : Env} {l l' : List Value} (h : VRs E l l') (hs : plains1 l = true) : l' = l := by
  induction l generalizing l' with
  | nil => cases h; rfl
  | cons x l ih =>
    simp only [plains1, List.all_cons, Bool.and_eq_true] at hs
    cases h with
    | cons h h1 => rw [h.plain1_eq hs.1, ih h1 (by simpa [plains1] using hs.2)]
theorem VR.plain_eq {E : Env} {v v' : Value} (h : VR E v v') (hs : plain v = true) : v' = v := by
  cases h with
  | sc _ => rfl
  | ptr o h => simp [plain, plain1, scalar] at hs
  | sl o l c h => simp [plain, plain1, scalar] at hs
  | emp o z c h hc => simp [plain, plain1, scalar] at hs
  | dang a h1 h2 h3 h4 => simp [plain, plain1, scalar] at hs
  | map h => simp [plain, plain1, scalar] at hs
  | func h h1 h2 => exact VR.plain1_eq (.func h h1 h2) (by simpa [plain] using hs)
  | iface t h => simp only [plain] at hs; rw [h.plain1_eq hs]
  | agg h => simp only [plain] at hs; rw [h.plains1_eq hs]
  | tuple h => simp only [plain] at hs; rw [h.plains1_eq hs]
theorem VR.of_plain1 {E : Env} {v : Value} (h : plain1 v = true) : VR E v v := by
  unfold plain1 at h
  split at h
  · exact .agg (VRs.of_scalars h)
  · exact .tuple (VRs.of_scalars h)
  · exact .iface _ (.sc h)
  · rw [Bool.and_eq_true] at h; exact .func (.func _) (VRs.of_scalars h.1) (VRs.of_scalars h.2)
  · rw [Bool.and_eq_true] at h; exact .func (.method _) (VRs.of_scalars h.1) (VRs.of_scalars h.2)
  · exact .sc h
theorem VRs.of_plains1 {E : Env} : ∀ {l : List Value}, plains1 l = true → VRs E l l
  | [], _ => .nil
  | x :: l, h => by
    simp only [plains1, List.all_cons, Bool.and_eq_true] at h
    exact .cons (.of_plain1 h.1) (VRs.of_plains1 (by simpa [plains1] using h.2))
theorem VR.of_plain {E : Env} {v : Value} (h : plain v = true) : VR E v v := by
  unfold plain at h
  split at h
  · exact .agg (VRs.of_plains1 h)
  · exact .tuple (VRs.of_plains1 h)
  · exact .iface _ (VR.of_plain1 h)
  · exact VR.of_plain1 h

theorem FnR.det {E : Env} {f a b : Fn} (h : FnR E f a) (h' : FnR E f b) : a = b := by
  cases h <;> cases h'
  · rfl
  · rfl
  · rename_i h1 _ _ h2; rw [h1] at h2; cases h2; rfl
mutual
theorem VR.det {E : Env} : ∀ {v a b : Value}, VR E v a → VR E v b → a = b
  | _, _, _, .sc h, h' => (h'.scalar_eq h).symm
  | _, _, _, .ptr o h, h' => by
    cases h' with
    | sc h2 => simp [scalar] at h2
    | ptr o' h2 => rw [h] at h2; cases h2; rfl
  | _, _, _, .sl o l c h, h' => by
    cases h' with
    | sc h2 => simp [scalar] at h2
    | sl o' l' c' h2 => rw [h] at h2; cases h2; rfl
  | _, _, _, .emp o z c h hc, h' => by
    cases h' with
    | sc h2 => simp [scalar] at h2
    | emp o' z' c' h2 hc' => rw [h] at h2; cases h2; rfl
    | dang a h1 h2 h3 h4 => omega
  | _, _, _, .dang a h1 h2 h3 h4, h' => by
    cases h' with
    | sc h2 => simp [scalar] at h2
    | emp o' z' c' h2 hc' => omega
    | dang a' g1 g2 g3 g4 =>
      obtain ⟨ab, ao, as⟩ := a
      obtain ⟨bb, bo, bs⟩ := a'
      have e3 := zc_inj (h3.symm.trans g3)
      simp only at h1 h2 g1 g2 e3
      rw [← h1, ← h2, ← g1, ← g2, e3]
  | _, _, _, .map h, h' => by
    cases h' with
    | sc h2 => simp [scalar] at h2
    | map h2 => rw [h] at h2; cases h2; rfl
  | _, _, _, .func h h1 h2, h' => by
    cases h' with
    | sc h3 => simp [scalar] at h3
    | func g g1 g2 => rw [h.det g, VRs.det h1 g1, VRs.det h2 g2]
  | _, _, _, .iface t h, h' => by
    cases h' with
    | sc h3 => simp [scalar] at h3
    | iface _ g => rw [VR.det h g]
  | _, _, _, .agg h, h' => by
    cases h' with
    | sc h3 => simp [scalar] at h3
    | agg g => rw [VRs.det h g]
  | _, _, _, .tuple h, h' => by
    cases h' with
    | sc h3 => simp [scalar] at h3
    | tuple g => rw [VRs.det h g]
theorem VRs.det {E : Env} : ∀ {v a b : List Value}, VRs E v a → VRs E v b → a = b
  | _, _, _, .nil, h' => by cases h'; rfl
  | _, _, _, .cons h h1, h' => by
    cases h' with
    | cons g g1 => rw [VR.det h g, VRs.det h1 g1]
end
theorem VR.cells {E : Env} {v v' : Value} (h : VR E v v') : VRs E v.cells.toList v'.cells.toList := by
  cases h with
  | sc h => cases v <;> first | exact VRs.one (.sc h) | (simp [scalar] at h)
  | ptr o h => exact VRs.one (.ptr o h)
  | sl o l c h => exact VRs.one (.sl o l c h)
  | emp o z c h hc => exact VRs.one (.emp o z c h hc)
  | dang a h1 h2 h3 h4 => exact VRs.one (.dang a h1 h2 h3 h4)
  | map h => exact VRs.one (.map h)
  | func h h1 h2 => exact VRs.one (.func h h1 h2)
  | iface t h => exact VRs.one (.iface t h)
  | agg h => exact h
  | tuple h => exact VRs.one (.tuple h)
end Go.Ax
end
/- part AxB -/
section
/- The abstract store, and when it stands for a part of the heap. -/
namespace Go.Ax
open Go.RowKit

inductive AObj where
  | cells (cs : List Value) (elem : TypeId) (g : Nat)
  | map (es : List MapEntry) (clock : Nat)
  | iter (m : Nat) (since : Nat) (seen : Array Nat) (stepped : Nat)
  | loop (state : LoopState) (pending : Option Code) (tmps : List Value) (params : Array Tmp) (assign body : Code) (defers : Nat)
  | defd (opn : Bool)
  | dead
  | ext (o : Nat) (cs : List Value)
noncomputable def AObj.alive : AObj → Bool
  | .dead => false
  | .ext _ _ => false
  | _ => true
noncomputable def AObj.live : AObj → Bool
  | .dead => false
  | _ => true
theorem AObj.live_of {o : AObj} (h : o.alive = true) : o.live = true := by cases o <;> first | rfl | (simp [AObj.alive] at h)
structure St where
  objs : List AObj
  n : Nat
  low : Nat
  mono : Bool := false
noncomputable def St.get (S : St) (i : Nat) : Option AObj := match Nat.blt i S.n with
  | true => lget S.objs (S.n - 1 - i)
  | false => none
theorem St.get_def (S : St) (i : Nat) : S.get i = if i < S.n then S.objs[S.n - 1 - i]? else none := by
  unfold St.get
  rw [lget_eq]
  by_cases h : i < S.n
  · rw [if_pos h]
    have : Nat.blt i S.n = true := by simpa [Nat.blt_eq] using h
    rw [this]
  · rw [if_neg h]
    have : Nat.blt i S.n = false := by
      cases hb : Nat.blt i S.n with
      | false => rfl
      | true => exact absurd (by simpa [Nat.blt_eq] using hb) h
    rw [this]
noncomputable def St.push (S : St) (o : AObj) : St := { objs := o :: S.objs, n := S.n + 1, low := S.low, mono := S.mono }
noncomputable def St.set (S : St) (i : Nat) (o : AObj) : St := { objs := lset S.objs (S.n - 1 - i) o, n := S.n, low := if i < S.low then i else S.low, mono := S.mono }
noncomputable def St.ok (S : St) : Prop := S.objs.length = S.n

theorem St.get_lt {S : St} {i : Nat} {o : AObj} (h : S.get i = some o) : i < S.n := by
  rw [St.get_def] at h
  by_cases hi : i < S.n
  · exact hi
  · rw [if_neg hi] at h; cases h
theorem St.get_push_old {S : St} (o : AObj) {i : Nat} (h : i < S.n) : (S.push o).get i = S.get i := by
  rw [St.get_def, St.get_def]; unfold St.push
  simp only
  rw [if_pos (by omega), if_pos h]
  have e : S.n + 1 - 1 - i = (S.n - 1 - i) + 1 := by omega
  rw [e, List.getElem?_cons_succ]
theorem St.get_push_new (S : St) (o : AObj) : (S.push o).get S.n = some o := by
  rw [St.get_def]; unfold St.push
  simp
theorem St.get_set_same {S : St} (hS : S.ok) {i : Nat} (h : i < S.n) (o : AObj) : (S.set i o).get i = some o := by
  rw [St.get_def]; unfold St.set; rw [lset_eq]
  simp only
  rw [if_pos h]
  unfold St.ok at hS
  rw [List.getElem?_set]
  simp
  omega
theorem St.get_set_ne {S : St} {i j : Nat} (h : i < S.n) (hne : i ≠ j) (o : AObj) : (S.set i o).get j = S.get j := by
  rw [St.get_def, St.get_def]; unfold St.set; rw [lset_eq]
  simp only
  by_cases hj : j < S.n
  · rw [if_pos hj, if_pos hj, List.getElem?_set_ne (by omega)]
  · rw [if_neg hj, if_neg hj]
theorem St.ok_push {S : St} (h : S.ok) (o : AObj) : (S.push o).ok := by unfold St.ok St.push at *; simp [h]
theorem St.ok_set {S : St} (h : S.ok) (i : Nat) (o : AObj) : (S.set i o).ok := by unfold St.ok St.set at *; rw [lset_eq]; simp [h]

/-- what stands below 'low' has not been set since low was last put up -/
structure Keeps (S S' : St) : Prop where
  n : S.n ≤ S'.n
  low : S'.low ≤ S.low
  same : ∀ i, i < S'.low → i < S.n → S'.get i = S.get i
theorem Keeps.refl (S : St) : Keeps S S := ⟨Nat.le_refl _, Nat.le_refl _, fun _ _ _ => rfl⟩
theorem Keeps.trans {a b c : St} (h : Keeps a b) (k : Keeps b c) : Keeps a c :=
  ⟨Nat.le_trans h.n k.n, Nat.le_trans k.low h.low, fun i hi hn => (k.same i hi (Nat.lt_of_lt_of_le hn h.n)).trans (h.same i (Nat.lt_of_lt_of_le hi k.low) hn)⟩
theorem Keeps.push (S : St) (o : AObj) : Keeps S (S.push o) := ⟨Nat.le_succ _, Nat.le_refl _, fun _ _ hn => St.get_push_old o hn⟩
theorem Keeps.set {S : St} {i : Nat} (h : i < S.n) (o : AObj) : Keeps S (S.set i o) := by
  refine ⟨Nat.le_refl _, ?_, ?_⟩
  · unfold St.set; simp only; split <;> omega
  · intro j hj hn
    refine St.get_set_ne h ?_ o
    intro e
    subst e
    unfold St.set at hj
    simp only at hj
    split at hj <;> omega

inductive ER (E : Env) : List MapEntry → List MapEntry → Prop
  | nil : ER E [] []
  | cons {e e' : MapEntry} {es es' : List MapEntry} (hk : VR E e.key e'.key) (hv : VR E e.val e'.val) (hb : e'.born = e.born) (h : ER E es es') : ER E (e :: es) (e' :: es')
theorem ER.mono {E E' : Env} (hE : E.le E') {a b : List MapEntry} (h : ER E a b) : ER E' a b := by
  induction h with
  | nil => exact .nil
  | cons hk hv hb _ ih => exact .cons (hk.mono hE) (hv.mono hE) hb ih
theorem ER.det {E : Env} {a b c : List MapEntry} (h : ER E a b) (h' : ER E a c) : b = c := by
  induction h generalizing c with
  | nil => cases h'; rfl
  | cons hk hv hb _ ih =>
    rename_i e e' es es' _
    cases h' with
    | cons gk gv gb g =>
      rename_i f fs
      rw [ih g]
      have h1 := hk.det gk
      have h2 := hv.det gv
      obtain ⟨k1, v1, b1⟩ := e'
      obtain ⟨k2, v2, b2⟩ := f
      simp only at h1 h2 hb gb
      rw [h1, h2, hb, gb]

/-- object i of the store, in the heap -/
noncomputable def OR (E : Env) (i : Nat) (w : World) : AObj → Prop
  | .cells cs t g => ∃ b κ cs' pad, E i = some (b, κ) ∧ w.heap[b]? = some (.cells (cs' ++ pad).toArray t (0, 0)) ∧ VRs E cs cs' ∧ (g = 0 → pad = []) ∧ (g ≠ 0 → cs.length + pad.length = κ * g ∧ κ ≤ 9223372036854775807)
  | .map es clock => ∃ b κ es', E i = some (b, κ) ∧ w.heap[b]? = some (.map es'.toArray clock) ∧ ER E es es'
  | .iter m since seen stepped => ∃ b κ mb mκ, E i = some (b, κ) ∧ E m = some (mb, mκ) ∧ w.heap[b]? = some (.mapIter (some mb) since seen stepped)
  | .loop st pd tm ps asg bd df => ∃ b κ l db dκ, E i = some (b, κ) ∧ E df = some (db, dκ) ∧ w.heap[b]? = some (.loop l) ∧ l.state = st ∧ l.pending = pd ∧ VRs E tm l.tmps.toList ∧ l.params = ps ∧ l.assign = asg ∧ l.body = bd ∧ l.defers = db
  | .defd o => ∃ b κ, E i = some (b, κ) ∧ w.heap[b]? = some (.deferred (if o then some [] else none))
  | .dead => True
  | .ext o cs => ∃ b κ arr t fz cs', E i = some (b, κ) ∧ w.heap[b]? = some (.cells arr t fz) ∧ VRs E cs cs' ∧ ∀ (k : Nat) (v : Value), cs'[k]? = some v → arr[o + k]? = some v

theorem OR.env {E : Env} {i : Nat} {w : World} {o : AObj} (h : OR E i w o) (ha : o.alive = true) : ∃ b κ, E i = some (b, κ) := by
  cases o with
  | cells => obtain ⟨b, κ, _, _, h, _⟩ := h; exact ⟨b, κ, h⟩
  | map => obtain ⟨b, κ, _, h, _⟩ := h; exact ⟨b, κ, h⟩
  | iter => obtain ⟨b, κ, _, _, h, _⟩ := h; exact ⟨b, κ, h⟩
  | loop => obtain ⟨b, κ, _, _, _, h, _⟩ := h; exact ⟨b, κ, h⟩
  | defd => obtain ⟨b, κ, h, _⟩ := h; exact ⟨b, κ, h⟩
  | dead => simp [AObj.alive] at ha
  | ext => simp [AObj.alive] at ha
/-- a block that is as it was, under a greater env -/
theorem OR.keep {E E' : Env} {i : Nat} {w w' : World} {o : AObj} (h : OR E i w o) (hE : E.le E') (hw : ∀ b κ, E i = some (b, κ) → w'.heap[b]? = w.heap[b]?) : OR E' i w' o := by
  cases o with
  | cells => obtain ⟨b, κ, cs', pad, h1, h2, h3, h4⟩ := h; exact ⟨b, κ, cs', pad, hE _ _ h1, (hw _ _ h1).trans h2, h3.mono hE, h4⟩
  | map => obtain ⟨b, κ, es', h1, h2, h3⟩ := h; exact ⟨b, κ, es', hE _ _ h1, (hw _ _ h1).trans h2, h3.mono hE⟩
  | iter => obtain ⟨b, κ, mb, mκ, h1, h2, h3⟩ := h; exact ⟨b, κ, mb, mκ, hE _ _ h1, hE _ _ h2, (hw _ _ h1).trans h3⟩
  | loop => obtain ⟨b, κ, l, db, dκ, h1, h2, h3, h4, h5, h6, h7⟩ := h; exact ⟨b, κ, l, db, dκ, hE _ _ h1, hE _ _ h2, (hw _ _ h1).trans h3, h4, h5, h6.mono hE, h7⟩
  | defd => obtain ⟨b, κ, h1, h2⟩ := h; exact ⟨b, κ, hE _ _ h1, (hw _ _ h1).trans h2⟩
  | dead => trivial
  | ext => obtain ⟨b, κ, arr, t, fz, cs', h1, h2, h3, h4⟩ := h; exact ⟨b, κ, arr, t, fz, cs', hE _ _ h1, (hw _ _ h1).trans h2, h3.mono hE, h4⟩

/-- where a run began, and which numbers are kept for objects that are to come -/
structure Base where
  w : World
  own : Nat → Prop
  hole : Nat → Prop
abbrev Base.heap (b : Base) : Array Obj := b.w.heap
/-- what lies below the base is as it was, but for what is its own -/
structure BelowO (b : Base) (w : World) : Prop where
  os : w.os = b.w.os
  tape : w.tape = b.w.tape
  output : w.output = b.w.output
  size : b.heap.size ≤ w.heap.size
  block : ∀ k, k < b.heap.size → w.heap[k]? = b.heap[k]?
theorem BelowO.after {b : Base} {w w' : World} (h : BelowO b w) (h' : Below w.heap.size w w') : BelowO b w' :=
  ⟨h'.os.trans h.os, h'.tape.trans h.tape, h'.output.trans h.output, Nat.le_trans h.size h'.size, fun k hk => (h'.block k (Nat.lt_of_lt_of_le hk h.size)).trans (h.block k hk)⟩
theorem BelowO.alloc {b : Base} {w : World} (h : BelowO b w) (ob : Obj) : BelowO b (w.alloc ob) := h.after ((Below.refl _ _).alloc (Nat.le_refl _) _)
theorem BelowO.drew {b : Base} {w : World} (h : BelowO b w) : BelowO b w.drew := h.after (Below.refl _ _).drew
structure SR (w0 : Base) (E : Env) (S : St) (w : World) : Prop where
  len : S.ok
  obj : ∀ i o, S.get i = some o → ¬ w0.hole i → OR E i w o
  hole : ∀ i, w0.hole i → i < S.n ∧ E i = none
  dom : ∀ i, S.n ≤ i → E i = none
  inj : ∀ i j o o' b κ κ', S.get i = some o → o.alive = true → S.get j = some o' → o'.live = true → E i = some (b, κ) → E j = some (b, κ') → i = j
  rng : ∀ i b κ, E i = some (b, κ) → (w0.own b ∨ w0.heap.size ≤ b) ∧ b < w.heap.size
  below : BelowO w0 w
  new : ∀ i o b κ, S.get i = some o → o.alive = true → E i = some (b, κ) → w0.heap.size ≤ b
  mono : S.mono = true → w0.w.drawn ≤ w.drawn
theorem SR.at {w0 : Base} {E : Env} {S : St} {w : World} (h : SR w0 E S w) {i : Nat} {o : AObj} (hi : S.get i = some o) {x : Nat × Nat} (hx : E i = some x) : OR E i w o :=
  h.obj i o hi fun hh => by rw [(h.hole i hh).2] at hx; cases hx

theorem alloc_old (w : World) (ob : Obj) {b : Nat} (h : b < w.heap.size) : (w.alloc ob).heap[b]? = w.heap[b]? := Below.heap_alloc w ob b h
theorem alloc_new (w : World) (ob : Obj) : (w.alloc ob).heap[w.heap.size]? = some ob := by
  show (w.heap.push ob)[w.heap.size]? = some ob
  simp

theorem SR.start (w : World) : SR ⟨w, fun _ => False, fun _ => False⟩ (fun _ => none) { objs := [], n := 0, low := 0 } w where
  len := rfl
  obj := fun i o h => absurd (St.get_lt h) (by simp)
  hole := fun _ h => h.elim
  dom := fun _ _ => rfl
  inj := fun i j o o' b κ κ' h => absurd (St.get_lt h) (by simp)
  rng := fun _ _ _ h => by cases h
  below := ⟨rfl, rfl, rfl, Nat.le_refl _, fun _ _ => rfl⟩
  new := fun i o b κ h => absurd (St.get_lt h) (by simp)
  mono := fun h => by cases h

theorem SR.low {w0 : Base} {E : Env} {S : St} {w : World} (h : SR w0 E S w) (l : Nat) : SR w0 E { S with low := l } w :=
  ⟨h.len, h.obj, h.hole, h.dom, h.inj, h.rng, h.below, h.new, h.mono⟩

theorem SR.drew {w0 : Base} {E : Env} {S : St} {w : World} (h : SR w0 E S w) : SR w0 E S w.drew :=
  ⟨h.len, fun i o hi hn => (h.obj i o hi hn).keep (Env.le.refl _) (fun _ _ _ => rfl), h.hole, h.dom, h.inj, h.rng, h.below.drew, h.new, fun g => Nat.le_succ_of_le (h.mono g)⟩

/-- a new object, in a new block -/
theorem SR.push {w0 : Base} {E : Env} {S : St} {w : World} (h : SR w0 E S w) (o : AObj) (ob : Obj) (κ : Nat)
    (hnew : ∀ w', w'.heap[w.heap.size]? = some ob → OR (E.upd S.n (w.heap.size, κ)) S.n w' o) :
    SR w0 (E.upd S.n (w.heap.size, κ)) (S.push o) (w.alloc ob) := by
  have hE : E.le (E.upd S.n (w.heap.size, κ)) := Env.upd_le (h.dom _ (Nat.le_refl _))
  have hz : (w.alloc ob).heap.size = w.heap.size + 1 := World.size_alloc ..
  have hlt : ∀ i b κ', i ≠ S.n → (E.upd S.n (w.heap.size, κ)) i = some (b, κ') → E i = some (b, κ') := by
    intro i b κ' hi he
    unfold Env.upd at he
    rwa [if_neg hi] at he
  refine ⟨St.ok_push h.len o, ?_, ?_, ?_, ?_, ?_, h.below.alloc _, ?_, h.mono⟩
  · intro i o' hi hn
    by_cases e : i = S.n
    · subst e
      rw [St.get_push_new] at hi
      cases hi
      exact hnew _ (alloc_new w ob)
    · have hi' : i < S.n := by have := St.get_lt hi; unfold St.push at this; simp only at this; omega
      rw [St.get_push_old o hi'] at hi
      exact (h.obj i o' hi hn).keep hE fun b κ' hb => alloc_old w ob (h.rng _ _ _ hb).2
  · intro i hi
    obtain ⟨h1, h2⟩ := h.hole i hi
    refine ⟨by unfold St.push; simp only; omega, ?_⟩
    unfold Env.upd
    rw [if_neg (by omega)]
    exact h2
  · intro i hi
    unfold St.push at hi
    simp only at hi
    unfold Env.upd
    rw [if_neg (by omega)]
    exact h.dom i (by omega)
  · intro i j oi oj b κ1 κ2 hi hai hj haj h1 h2
    have hni : i < S.n + 1 := St.get_lt hi
    have hnj : j < S.n + 1 := St.get_lt hj
    by_cases ei : i = S.n
    · by_cases ej : j = S.n
      · rw [ei, ej]
      · subst ei
        rw [Env.upd_same] at h1
        cases h1
        have := (h.rng _ _ _ (hlt _ _ _ ej h2)).2
        omega
    · by_cases ej : j = S.n
      · subst ej
        rw [Env.upd_same] at h2
        cases h2
        have := (h.rng _ _ _ (hlt _ _ _ ei h1)).2
        omega
      · rw [St.get_push_old o (by omega)] at hi hj
        exact h.inj i j oi oj b κ1 κ2 hi hai hj haj (hlt _ _ _ ei h1) (hlt _ _ _ ej h2)
  · intro i b κ' hb
    by_cases e : i = S.n
    · subst e
      rw [Env.upd_same] at hb
      cases hb
      exact ⟨.inr h.below.size, by omega⟩
    · have := h.rng _ _ _ (hlt _ _ _ e hb)
      exact ⟨this.1, by omega⟩
  · intro i oi b κ' hi hai hb
    by_cases e : i = S.n
    · subst e
      rw [Env.upd_same] at hb
      cases hb
      exact h.below.size
    · have hni : i < S.n + 1 := St.get_lt hi
      rw [St.get_push_old o (by omega)] at hi
      exact h.new i oi b κ' hi hai (hlt _ _ _ e hb)

noncomputable def putB (w : World) (b : Nat) (ob : Obj) : World := { w with heap := w.heap.setIfInBounds b ob }
theorem putB_same (w : World) {b : Nat} (ob : Obj) (h : b < w.heap.size) : (putB w b ob).heap[b]? = some ob := by
  simp [putB, h]
theorem putB_ne (w : World) {b k : Nat} (ob : Obj) (h : b ≠ k) : (putB w b ob).heap[k]? = w.heap[k]? := by
  simp [putB, Array.getElem?_setIfInBounds_ne h]
theorem putB_size (w : World) (b : Nat) (ob : Obj) : (putB w b ob).heap.size = w.heap.size := by simp [putB]

/-- an object that is alive is put anew -/
theorem SR.put {w0 : Base} {E : Env} {S : St} {w : World} (h : SR w0 E S w) {i : Nat} {o : AObj} (hi : S.get i = some o) (ha : o.alive = true) {b κ : Nat} (hb : E i = some (b, κ))
    (o' : AObj) (ob : Obj) (hnew : ∀ w', w'.heap[b]? = some ob → OR E i w' o') : SR w0 E (S.set i o') (putB w b ob) := by
  have hin : i < S.n := St.get_lt hi
  have hr := h.rng _ _ _ hb
  refine ⟨St.ok_set h.len i o', ?_, h.hole, h.dom, ?_, ?_, ?_, ?_, h.mono⟩
  · intro j oj hj hn
    by_cases e : i = j
    · subst e
      rw [St.get_set_same h.len hin] at hj
      cases hj
      exact hnew _ (putB_same w ob hr.2)
    · rw [St.get_set_ne hin e] at hj
      by_cases haj : oj.live = true
      · refine (h.obj j oj hj hn).keep (Env.le.refl _) fun b' κ' hb' => putB_ne w ob ?_
        intro eb
        subst eb
        exact e (h.inj i j o oj b κ κ' hi ha hj haj hb hb')
      · cases oj <;> first | trivial | (exact absurd rfl haj)
  · intro j k oj ok b' κ1 κ2 hj haj hk hak h1 h2
    have hx : ∀ m om, (S.set i o').get m = some om → om.alive = true → ∃ om', S.get m = some om' ∧ om'.alive = true := by
      intro m om hm ham
      by_cases e : i = m
      · subst e; exact ⟨o, hi, ha⟩
      · rw [St.get_set_ne hin e] at hm; exact ⟨om, hm, ham⟩
    have hy : ∀ m om, (S.set i o').get m = some om → om.live = true → ∃ om', S.get m = some om' ∧ om'.live = true := by
      intro m om hm ham
      by_cases e : i = m
      · subst e; exact ⟨o, hi, AObj.live_of ha⟩
      · rw [St.get_set_ne hin e] at hm; exact ⟨om, hm, ham⟩
    obtain ⟨oj', hj', haj'⟩ := hx j oj hj haj
    obtain ⟨ok', hk', hak'⟩ := hy k ok hk hak
    exact h.inj j k oj' ok' b' κ1 κ2 hj' haj' hk' hak' h1 h2
  · intro j b' κ' hb'
    rw [putB_size]
    exact h.rng j b' κ' hb'
  · have hB := h.below
    refine ⟨hB.os, hB.tape, hB.output, by rw [putB_size]; exact hB.size, fun k hk => ?_⟩
    have := h.new i o b κ hi ha hb
    rw [putB_ne w ob (by omega)]
    exact hB.block k hk
  · intro j oj b' κ' hj haj hb'
    by_cases e : i = j
    · subst e
      exact h.new i o b' κ' hi ha hb'
    · rw [St.get_set_ne hin e] at hj
      exact h.new j oj b' κ' hj haj hb'

/-- an object is given up -/
theorem SR.kill {w0 : Base} {E : Env} {S : St} {w : World} (h : SR w0 E S w) {i : Nat} (hin : i < S.n) : SR w0 E (S.set i .dead) w := by
  refine ⟨St.ok_set h.len i _, ?_, h.hole, h.dom, ?_, h.rng, h.below, ?_, h.mono⟩
  · intro j oj hj hn
    by_cases e : i = j
    · subst e
      rw [St.get_set_same h.len hin] at hj
      cases hj
      trivial
    · rw [St.get_set_ne hin e] at hj
      exact h.obj j oj hj hn
  · intro j k oj ok b' κ1 κ2 hj haj hk hak h1 h2
    have hx : ∀ m om, (S.set i .dead).get m = some om → om.alive = true → S.get m = some om := by
      intro m om hm ham
      by_cases e : i = m
      · subst e; rw [St.get_set_same h.len hin] at hm; cases hm; simp [AObj.alive] at ham
      · rwa [St.get_set_ne hin e] at hm
    have hy : ∀ m om, (S.set i .dead).get m = some om → om.live = true → S.get m = some om := by
      intro m om hm ham
      by_cases e : i = m
      · subst e; rw [St.get_set_same h.len hin] at hm; cases hm; simp [AObj.live] at ham
      · rwa [St.get_set_ne hin e] at hm
    exact h.inj j k oj ok b' κ1 κ2 (hx _ _ hj haj) haj (hy _ _ hk hak) hak h1 h2
  · intro j oj b' κ' hj haj hb'
    by_cases e : i = j
    · subst e
      rw [St.get_set_same h.len hin] at hj; cases hj; simp [AObj.alive] at haj
    · rw [St.get_set_ne hin e] at hj
      exact h.new j oj b' κ' hj haj hb'

/-- what a call made falls away: nothing that stood was turned -/
theorem SR.drop {w0 : Base} {E E' : Env} {S S' : St} {w w' : World} (h : SR w0 E S w) (h' : SR w0 E' S' w') (hE : E.le E')
    (hs : ∀ i, i < S.n → S'.get i = S.get i) (hsz : w.heap.size ≤ w'.heap.size) (hmo : S.mono = true → S'.mono = true) : SR w0 E S w' := by
  refine ⟨h.len, ?_, h.hole, h.dom, h.inj, fun i b κ hb => ⟨(h.rng i b κ hb).1, Nat.lt_of_lt_of_le (h.rng i b κ hb).2 hsz⟩, h'.below, h.new, fun g => h'.mono (hmo g)⟩
  intro i o hi hn
  have hi' : S'.get i = some o := (hs i (St.get_lt hi)).trans hi
  have h1 := h.obj i o hi hn
  have h2 := h'.obj i o hi' hn
  cases o with
  | cells cs t g =>
    obtain ⟨b, κ, cs1, pad1, e1, _, r1, _, _⟩ := h1
    obtain ⟨b2, κ2, cs2, pad2, e2, hp, r2, p2, q2⟩ := h2
    have e3 := hE _ _ e1
    rw [e3] at e2
    cases e2
    have := (r1.mono hE).det r2
    subst this
    exact ⟨b, κ, cs1, pad2, e1, hp, r1, p2, q2⟩
  | map es clock =>
    obtain ⟨b, κ, es1, e1, _, r1⟩ := h1
    obtain ⟨b2, κ2, es2, e2, hp, r2⟩ := h2
    have e3 := hE _ _ e1
    rw [e3] at e2
    cases e2
    have := (r1.mono hE).det r2
    subst this
    exact ⟨b, κ, es1, e1, hp, r1⟩
  | iter m since seen stepped =>
    obtain ⟨b, κ, mb, mκ, e1, f1, _⟩ := h1
    obtain ⟨b2, κ2, mb2, mκ2, e2, f2, hp⟩ := h2
    have e3 := hE _ _ e1
    have f3 := hE _ _ f1
    rw [e3] at e2
    rw [f3] at f2
    cases e2
    cases f2
    exact ⟨b, κ, mb, mκ, e1, f1, hp⟩
  | loop st pd tm ps asg bd df =>
    obtain ⟨b, κ, l, db, dκ, e1, f1, _, _, _, r1, _⟩ := h1
    obtain ⟨b2, κ2, l2, db2, dκ2, e2, f2, hp, a1, a2, r2, a3, a4, a5, a6⟩ := h2
    have e3 := hE _ _ e1
    have f3 := hE _ _ f1
    rw [e3] at e2
    rw [f3] at f2
    cases e2
    cases f2
    have := (r1.mono hE).det r2
    rw [this] at r1
    exact ⟨b, κ, l2, db, dκ, e1, f1, hp, a1, a2, r1, a3, a4, a5, a6⟩
  | defd op =>
    obtain ⟨b, κ, e1, _⟩ := h1
    obtain ⟨b2, κ2, e2, hp⟩ := h2
    have e3 := hE _ _ e1
    rw [e3] at e2
    cases e2
    exact ⟨b, κ, e1, hp⟩
  | dead => trivial
  | ext o cs =>
    obtain ⟨b, κ, arr1, t1, fz1, cs1, e1, _, r1, _⟩ := h1
    obtain ⟨b2, κ2, arr2, t2, fz2, cs2, e2, hp, r2, p2⟩ := h2
    have e3 := hE _ _ e1
    rw [e3] at e2
    cases e2
    have := (r1.mono hE).det r2
    subst this
    exact ⟨b, κ, arr2, t2, fz2, cs1, e1, hp, r1, p2⟩
end Go.Ax
end
/- part AxC -/
section
/- Loads, stores and new blocks of the model, at a block whose cells are known. -/
namespace Go.Ax
open Go.RowKit

structure TI where
  zero : Value
  size : Nat
  bytes : Nat
structure Tab where
  fn : FuncId → Option Func
  info : TypeId → Option TI
  und : TypeId → Option TypeDesc
structure TabOK (P : Program) (T : Tab) : Prop where
  fn : ∀ f x, T.fn f = some x → P.funcs[f]? = some x ∧ (x.name == "runtime.NumGoroutine") = false
  info : ∀ t i, T.info t = some i → ∃ j, P.info? t = some j ∧ j.zero = some i.zero ∧ j.size = i.size ∧ j.bytes = i.bytes
  und : ∀ t d, T.und t = some d → P.underlying t = some d
  mixed : P.follows .mixedOrders = true

noncomputable def aggT : TypeDesc → Bool
  | .struct _ => true
  | .array _ _ => true
  | _ => false

section
variable {P : Program} {T : Tab} (hT : TabOK P T)
include hT
theorem run_und {t : TypeId} {d : TypeDesc} (h : T.und t = some d) (w : World) : (underlying t).run P w = .ok d w := run_underlying (hT.und t d h) w
theorem run_size {t : TypeId} {i : TI} (h : T.info t = some i) (w : World) : (sizeOf t).run P w = .ok i.size w := by
  obtain ⟨j, h1, h2, h3, h4⟩ := hT.info t i h
  simp [sizeOf, typeInfo, h1, h3]
theorem run_bytes {t : TypeId} {i : TI} (h : T.info t = some i) (w : World) : ∃ j, (typeInfo t).run P w = .ok j w ∧ j.bytes = i.bytes ∧ j.size = i.size := by
  obtain ⟨j, h1, h2, h3, h4⟩ := hT.info t i h
  exact ⟨j, by simp [typeInfo, h1], h4, h3⟩
theorem run_zero {t : TypeId} {i : TI} (h : T.info t = some i) (w : World) : (zeroValue t).run P w = .ok i.zero w := by
  obtain ⟨j, h1, h2, h3, h4⟩ := hT.info t i h
  simp [zeroValue, typeInfo, h1, h2]
theorem run_agg {t : TypeId} {d : TypeDesc} (h : T.und t = some d) (w : World) : (isAgg t).run P w = .ok (aggT d) w := by
  unfold isAgg
  simp only [Sem.run_bind, run_und hT h, Result.andThen_ok]
  cases d <;> simp [aggT]
end

theorem add_at (b o i : Nat) : (⟨b, o, none⟩ : Addr).add i = ⟨b, o + i, none⟩ := by
  unfold Addr.add
  by_cases h : i = 0
  · subst h; simp
  · rw [if_neg h]
theorem cell_at {w : World} {b : Nat} {l : List Value} {t : TypeId} {fz : Nat × Nat} (h : w.heap[b]? = some (.cells l.toArray t fz)) (o : Nat) : w.cell? ⟨b, o, none⟩ = l[o]? := by
  unfold World.cell?
  simp [h]
theorem frozen_at {w : World} {b : Nat} {l : List Value} {t : TypeId} (h : w.heap[b]? = some (.cells l.toArray t (0, 0))) (o : Nat) : w.frozen? ⟨b, o, none⟩ = false := by
  unfold World.frozen?
  simp [h]

theorem run_loadCellsFrom_at {P : Program} {w : World} {b : Nat} {l : List Value} {t : TypeId} {fz : Nat × Nat} (h : w.heap[b]? = some (.cells l.toArray t fz)) (o : Nat) :
    ∀ (n i : Nat) (acc : Array Value), o + i + n ≤ l.length → (loadCellsFrom ⟨b, o, none⟩ i n acc).run P w = .ok (acc ++ ((l.drop (o + i)).take n).toArray) w := by
  intro n
  induction n with
  | zero => intro i acc _; simp [loadCellsFrom]
  | succ n ih =>
    intro i acc hl
    have hc : w.cell? ⟨b, o + i, none⟩ = some (l[o + i]'(by omega)) := by rw [cell_at h, List.getElem?_eq_getElem (by omega)]
    simp only [loadCellsFrom, Sem.run_bind, run_load, add_at, hc, Result.andThen_ok]
    rw [ih (i + 1) _ (by omega)]
    congr 1
    rw [List.drop_eq_getElem_cons (i := o + i) (by omega), List.take_succ_cons]
    rw [← Nat.add_assoc]
    apply Array.ext'
    simp
theorem run_loadCellsFrom_known {P : Program} {w : World} {b o : Nat} : ∀ (vs : List Value) (i : Nat) (acc : Array Value), (∀ (k : Nat) (v : Value), vs[k]? = some v → w.cell? ⟨b, o + i + k, none⟩ = some v) →
    (loadCellsFrom ⟨b, o, none⟩ i vs.length acc).run P w = .ok (acc ++ vs.toArray) w := by
  intro vs
  induction vs with
  | nil => intro i acc _; simp [loadCellsFrom]
  | cons v vs ih =>
    intro i acc h
    have hc : w.cell? ⟨b, o + i, none⟩ = some v := by simpa using h 0 v rfl
    simp only [List.length_cons, loadCellsFrom, Sem.run_bind, run_load, add_at, hc, Result.andThen_ok]
    rw [ih (i + 1) _ (fun k x hk => by have := h (k + 1) x (by simpa using hk); rw [show o + (i + 1) + k = o + i + (k + 1) by omega]; exact this)]
    congr 1
    apply Array.ext'
    simp
theorem run_loadCells_known {P : Program} {w : World} {b o : Nat} {vs : List Value} {n : Nat} (hn : vs.length = n) (h : ∀ (k : Nat) (v : Value), vs[k]? = some v → w.cell? ⟨b, o + k, none⟩ = some v) : (loadCells ⟨b, o, none⟩ n).run P w = .ok vs.toArray w := by
  subst hn
  unfold loadCells
  rw [run_loadCellsFrom_known vs 0 #[] (by simpa using h)]
  congr 1
  apply Array.ext'
  simp
theorem run_loadCells_at {P : Program} {w : World} {b : Nat} {l : List Value} {t : TypeId} {fz : Nat × Nat} (h : w.heap[b]? = some (.cells l.toArray t fz)) (o n : Nat) (hn : o + n ≤ l.length) :
    (loadCells ⟨b, o, none⟩ n).run P w = .ok ((l.drop o).take n).toArray w := by
  unfold loadCells
  rw [run_loadCellsFrom_at h o n 0 #[] (by omega)]
  congr 1
  apply Array.ext'
  simp

noncomputable def splice (l : List Value) (o : Nat) (vs : List Value) : List Value := l.take o ++ (vs ++ l.drop (o + vs.length))
theorem splice_length (l : List Value) (o : Nat) (vs : List Value) (h : o + vs.length ≤ l.length) : (splice l o vs).length = l.length := by
  unfold splice; simp; omega
theorem VRs.splice {E : Env} {l l' vs vs' : List Value} (h : VRs E l l') (o : Nat) (hv : VRs E vs vs') : VRs E (splice l o vs) (splice l' o vs') := by
  unfold Go.Ax.splice
  rw [← hv.length]
  exact (h.take o).append (hv.append (h.drop _))
theorem putB_put (w : World) (b : Nat) (x y : Obj) : putB (putB w b x) b y = putB w b y := by
  unfold putB
  simp
theorem putB_self {w : World} {b : Nat} {x : Obj} (h : w.heap[b]? = some x) : putB w b x = w := by
  unfold putB
  have hb : b < w.heap.size := by
    rcases Nat.lt_or_ge b w.heap.size with hlt | hge
    · exact hlt
    · rw [Array.getElem?_eq_none hge] at h; cases h
  have : w.heap.setIfInBounds b x = w.heap := by
    apply Array.ext
    · simp
    · intro i h1 h2
      by_cases e : b = i
      · subst e
        rw [Array.getElem?_eq_getElem hb] at h
        injection h with h
        rw [h]
        exact Array.getElem_setIfInBounds_self _
      · exact Array.getElem_setIfInBounds_ne _ e
  rw [this]
theorem setCell_put {w : World} {b o : Nat} {c : Array Value} {t : TypeId} {fz : Nat × Nat} (h : w.heap[b]? = some (.cells c t fz)) (v : Value) :
    w.setCell ⟨b, o, none⟩ v = putB w b (.cells (c.setIfInBounds o v) t fz) := by
  unfold World.setCell putB
  have hb : b < w.heap.size := by
    rcases Nat.lt_or_ge b w.heap.size with hlt | hge
    · exact hlt
    · rw [Array.getElem?_eq_none hge] at h; cases h
  have he : w.heap[b] = .cells c t fz := by rw [Array.getElem?_eq_getElem hb] at h; injection h
  congr 1
  apply Array.ext
  · simp
  · intro i h1 h2
    by_cases e : b = i
    · subst e
      simp [Array.getElem_modify, he]
    · rw [Array.getElem_modify, if_neg e]
      exact (Array.getElem_setIfInBounds_ne _ e).symm

theorem run_storeCells_at' {P : Program} {b : Nat} {t : TypeId} (o : Nat) : ∀ (vs : List Value) (i : Nat) (l : List Value) (w : World), w.heap[b]? = some (.cells l.toArray t (0, 0)) →
    o + i + vs.length ≤ l.length → (∀ v ∈ vs, v.oneCell' = true) →
    (storeCells ⟨b, o, none⟩ vs i).run P w = .ok () (putB w b (.cells (splice l (o + i) vs).toArray t (0, 0))) := by
  intro vs
  induction vs with
  | nil =>
    intro i l w h _ _
    have : splice l (o + i) [] = l := by unfold splice; simp
    rw [this, putB_self h]
    simp [storeCells]
  | cons v vs ih =>
    intro i l w h hl h1
    simp only [List.length_cons] at hl
    have hc : w.cell? ⟨b, o + i, none⟩ = some (l[o + i]'(by omega)) := by rw [cell_at h, List.getElem?_eq_getElem (by omega)]
    have hlt : b < w.heap.size := by
      rcases Nat.lt_or_ge b w.heap.size with hlt | hge
      · exact hlt
      · rw [Array.getElem?_eq_none hge] at h; cases h
    simp only [storeCells, Sem.run_bind, add_at]
    rw [run_store _ _ _ _ _ (h1 v (by simp))]
    simp only [hc, frozen_at h, Bool.false_eq_true, if_false, Result.andThen_ok]
    rw [setCell_put h]
    have h2 : (putB w b (.cells (l.toArray.setIfInBounds (o + i) v) t (0, 0))).heap[b]? = some (.cells ((l.set (o + i) v).toArray) t (0, 0)) := by
      rw [putB_same _ _ hlt]; simp
    rw [ih (i + 1) (l.set (o + i) v) _ h2 (by simp; omega) (fun x hx => h1 x (by simp [hx])), putB_put]
    congr 3
    unfold splice
    simp only [← Nat.add_assoc, List.length_cons]
    rw [List.take_set, List.drop_set_of_lt (by omega)]
    have e1 : (List.take (o + i + 1) l).set (o + i) v = List.take (o + i) l ++ [v] := by
      rw [List.take_add_one, List.getElem?_eq_getElem (by omega)]
      simp only [Option.toList_some]
      rw [List.set_append_right _ _ (by simp; omega)]
      have : o + i - (List.take (o + i) l).length = 0 := by simp; omega
      rw [this]
      rfl
    rw [e1]
    simp only [List.append_assoc, List.cons_append]
    rw [show o + i + 1 + vs.length = o + i + (vs.length + 1) from by omega]
    rfl
theorem run_storeCells_list {P : Program} {b : Nat} {t : TypeId} {o : Nat} {vs l : List Value} {w : World} (h : w.heap[b]? = some (.cells l.toArray t (0, 0)))
    (hl : o + vs.length ≤ l.length) (h1 : ∀ v ∈ vs, v.oneCell' = true) :
    (storeCells ⟨b, o, none⟩ vs).run P w = .ok () (putB w b (.cells (splice l o vs).toArray t (0, 0))) := by
  have := run_storeCells_at' (P := P) o vs 0 l w h (by omega) h1
  simpa using this

noncomputable def ones (l : List Value) : Bool := l.all (·.oneCell')
theorem VR.one' {E : Env} {v v' : Value} (h : VR E v v') (h1 : v.oneCell' = true) : v'.oneCell' = true := by
  cases h <;> first | exact h1 | rfl
theorem VRs.ones {E : Env} {l l' : List Value} (h : VRs E l l') (h1 : ones l = true) : ∀ v ∈ l', v.oneCell' = true := by
  induction l generalizing l' with
  | nil => cases h; simp
  | cons x l ih =>
    simp only [Go.Ax.ones, List.all_cons, Bool.and_eq_true] at h1
    cases h with
    | cons h h2 =>
      intro v hv
      rcases List.mem_cons.1 hv with rfl | hv
      · exact h.one' h1.1
      · exact ih h2 (by simpa [Go.Ax.ones] using h1.2) v hv
end Go.Ax
end
/- part AxD -/
section
/- Single operations of the model upon values and stores that are stood for: loads, stores, boxes, addresses, structs. -/
namespace Go.Ax
open Go.RowKit

/-- what an operation of values does -/
noncomputable def Does (P : Program) (w0 : Base) (E : Env) (S : St) (w : World) (s : Sem Value) (v : Value) (S' : St) : Prop :=
  ∃ v' w' E', s.run P w = .ok v' w' ∧ E.le E' ∧ SR w0 E' S' w' ∧ VR E' v v' ∧ Keeps S S' ∧ w.heap.size ≤ w'.heap.size
noncomputable def DoesU (P : Program) (w0 : Base) (E : Env) (S : St) (w : World) (s : Sem Unit) (S' : St) : Prop :=
  ∃ w' E', s.run P w = .ok () w' ∧ E.le E' ∧ SR w0 E' S' w' ∧ Keeps S S' ∧ w.heap.size ≤ w'.heap.size
theorem Does.same {P : Program} {w0 : Base} {E : Env} {S : St} {w : World} {s : Sem Value} {v v' : Value} (hS : SR w0 E S w) (h : s.run P w = .ok v' w) (hv : VR E v v') : Does P w0 E S w s v S :=
  ⟨v', w, E, h, .refl E, hS, hv, .refl S, Nat.le_refl _⟩

section
variable {P : Program} {T : Tab} (hT : TabOK P T) {w0 : Base} {E : Env} {S : St} {w : World} (hS : SR w0 E S w)

theorem SR.cells (hS : SR w0 E S w) {i : Nat} {cs : List Value} {t : TypeId} {g : Nat} (h : S.get i = some (.cells cs t g)) {b κ : Nat} (hb : E i = some (b, κ)) :
    ∃ cs' pad, w.heap[b]? = some (.cells (cs' ++ pad).toArray t (0, 0)) ∧ VRs E cs cs' ∧ (g = 0 → pad = []) ∧ (g ≠ 0 → cs.length + pad.length = κ * g) := by
  obtain ⟨b', κ', cs', pad, h1, h2, h3, h4, h5⟩ := hS.at h hb
  rw [hb] at h1
  cases h1
  exact ⟨cs', pad, h2, h3, h4, fun hg => (h5 hg).1⟩
theorem SR.cellsK (hS : SR w0 E S w) {i : Nat} {cs : List Value} {t : TypeId} {g : Nat} (h : S.get i = some (.cells cs t g)) (hg : g ≠ 0) {b κ : Nat} (hb : E i = some (b, κ)) : κ ≤ 9223372036854775807 := by
  obtain ⟨b', κ', cs', pad, h1, h2, h3, h4, h5⟩ := hS.at h hb
  rw [hb] at h1
  cases h1
  exact (h5 hg).2

theorem SR.exts (hS : SR w0 E S w) {i : Nat} {o : Nat} {cs : List Value} (h : S.get i = some (.ext o cs)) {b κ : Nat} (hb : E i = some (b, κ)) :
    ∃ cs', VRs E cs cs' ∧ ∀ (k : Nat) (v : Value), cs'[k]? = some v → w.cell? ⟨b, o + k, none⟩ = some v := by
  obtain ⟨b', κ', arr, t, fz, cs', h1, h2, h3, h4⟩ := hS.at h hb
  rw [hb] at h1
  cases h1
  refine ⟨cs', h3, fun k v hk => ?_⟩
  unfold World.cell?
  simp [h2, h4 k v hk]
/-- a new row -/
theorem does_row {cs cs' : List Value} (hS : SR w0 E S w) (t : TypeId) (hc : VRs E cs cs') :
    ∃ E', E.le E' ∧ SR w0 E' (S.push (.cells cs t 0)) (w.alloc (.cells cs'.toArray t)) ∧ E' S.n = some (w.heap.size, 0) := by
  refine ⟨E.upd S.n (w.heap.size, 0), Env.upd_le (hS.dom _ (Nat.le_refl _)), hS.push _ _ _ ?_, Env.upd_same _ _ _⟩
  intro w' hw'
  exact ⟨w.heap.size, 0, cs', [], Env.upd_same _ _ _, by simpa using hw', hc.mono (Env.upd_le (hS.dom _ (Nat.le_refl _))), fun _ => rfl, fun h => absurd rfl h⟩

noncomputable def boxA (S : St) (t : TypeId) (v : Value) : Value × St := (.pointer (some ⟨S.n, 0, none⟩), S.push (.cells v.cells.toList t 0))
theorem does_newVar {v v' : Value} (hS : SR w0 E S w) (t : TypeId) (hv : VR E v v') :
    ∃ E', (newVar t v').run P w = .ok ⟨w.heap.size, 0, none⟩ (w.alloc (.cells v'.cells t)) ∧ E.le E' ∧ SR w0 E' (boxA S t v).2 (w.alloc (.cells v'.cells t)) ∧ VR E' (boxA S t v).1 (.pointer (some ⟨w.heap.size, 0, none⟩)) := by
  obtain ⟨E', h1, h2, h3⟩ := does_row hS t hv.cells
  exact ⟨E', by simp [newVar, newRow], h1, by simpa [boxA] using h2, .ptr 0 h3⟩
theorem does_box {v v' : Value} (hS : SR w0 E S w) (t : TypeId) (hv : VR E v v') : Does P w0 E S w (Instr.box t v') (boxA S t v).1 (boxA S t v).2 := by
  obtain ⟨E', h1, h2, h3, h4⟩ := does_newVar (P := P) hS t hv
  exact ⟨_, _, E', by simp [Instr.box, h1], h2, h3, h4, Keeps.push _ _, by rw [World.size_alloc]; omega⟩

noncomputable def allocA (T : Tab) (S : St) (t : TypeId) : Option (Value × St) :=
  match T.info t with
  | some i => if plain i.zero then some (boxA S t i.zero) else none
  | none => none
include hT in
theorem does_alloc {t : TypeId} {r : Value × St} (h : allocA T S t = some r) (hS : SR w0 E S w) : Does P w0 E S w (Instr.alloc t true (.tuple #[])) r.1 r.2 := by
  unfold allocA at h
  split at h
  case h_2 => cases h
  case h_1 i hi =>
    split at h
    case isFalse => cases h
    case isTrue hp =>
      cases h
      obtain ⟨E', h1, h2, h3, h4⟩ := does_newVar (P := P) hS t (VR.of_plain hp)
      exact ⟨_, _, E', by simp [Instr.alloc, run_zero hT hi, h1], h2, h3, h4, Keeps.push _ _, by rw [World.size_alloc]; omega⟩

noncomputable def loadA (T : Tab) (S : St) (t : TypeId) : Value → Option Value
  | .pointer (some ⟨b, o, none⟩) =>
    match S.get b, T.und t, T.info t with
    | some (.cells cs _ _), some d, some i =>
      if aggT d then (if o + i.size ≤ cs.length then some (.agg ((cs.drop o).take i.size).toArray) else none) else cs[o]?
    | some (.ext o0 cs), some d, some i =>
      if o0 ≤ o then (if aggT d then (if o - o0 + i.size ≤ cs.length then some (.agg ((cs.drop (o - o0)).take i.size).toArray) else none) else cs[o - o0]?) else none
    | _, _, _ => none
  | _ => none
include hT in
theorem does_load {t : TypeId} {v v' r : Value} (h : loadA T S t v = some r) (hS : SR w0 E S w) (hv : VR E v v') : ∃ r', (Instr.loadAt t v').run P w = .ok r' w ∧ VR E r r' := by
  unfold loadA at h
  split at h
  case h_2 => cases h
  case h_1 b o =>
    split at h
    case h_3 => cases h
    case h_1 cs tt g d i hb hd hi =>
      cases hv with
      | sc hx => simp [scalar] at hx
      | ptr o hb' =>
        rename_i b' κ
        obtain ⟨cs', pad, hh, hr, _, _⟩ := hS.cells hb hb'
        simp only [Instr.loadAt, Instr.sureAddr, loadVar, Sem.run_bind, Sem.run_pure, Result.andThen_ok, run_agg hT hd]
        split at h
        case isTrue ha =>
          simp only [ha, if_true]
          split at h
          case isFalse => cases h
          case isTrue hl =>
            cases h
            refine ⟨_, ?_, VR.agg ((hr.drop o).take i.size)⟩
            simp only [Sem.run_bind, run_size hT hi, Result.andThen_ok, Sem.run_pure]
            rw [run_loadCells_at hh o i.size (by simp [← hr.length]; omega)]
            simp only [Result.andThen_ok]
            have hl' : o + i.size ≤ cs'.length := by rw [← hr.length]; exact hl
            rw [List.drop_append_of_le_length (by omega), List.take_append_of_le_length (by simp; omega)]
        case isFalse ha =>
          have ha' : aggT d = false := by simpa using ha
          simp only [ha', Bool.false_eq_true, if_false]
          obtain ⟨r', h1, h2⟩ := hr.get h
          refine ⟨r', ?_, h2⟩
          have hc : w.cell? ⟨b', o, none⟩ = some r' := by
            rw [cell_at hh, List.getElem?_append_left (by rcases Nat.lt_or_ge o cs'.length with hlt | hge; exact hlt; rw [List.getElem?_eq_none hge] at h1; cases h1)]
            exact h1
          simp [hc]
    case h_2 o0 cs d i hb hd hi =>
      cases hv with
      | sc hx => simp [scalar] at hx
      | ptr o hb' =>
        rename_i b' κ
        obtain ⟨cs', hr, hcell⟩ := hS.exts hb hb'
        split at h
        case isFalse => cases h
        case isTrue hoo =>
          simp only [Instr.loadAt, Instr.sureAddr, loadVar, Sem.run_bind, Sem.run_pure, Result.andThen_ok, run_agg hT hd]
          split at h
          case isTrue ha =>
            simp only [ha, if_true]
            split at h
            case isFalse => cases h
            case isTrue hl =>
              cases h
              refine ⟨_, ?_, VR.agg ((hr.drop (o - o0)).take i.size)⟩
              simp only [Sem.run_bind, run_size hT hi, Result.andThen_ok, Sem.run_pure]
              have hl' : o - o0 + i.size ≤ cs'.length := by rw [← hr.length]; exact hl
              rw [run_loadCells_known (vs := (cs'.drop (o - o0)).take i.size) (by simp; omega) (fun k v hk => by
                rw [List.getElem?_take] at hk
                split at hk
                · rw [List.getElem?_drop] at hk
                  have := hcell _ _ hk
                  rw [show o + k = o0 + (o - o0 + k) by omega]
                  exact this
                · cases hk)]
              simp only [Result.andThen_ok]
          case isFalse ha =>
            have ha' : aggT d = false := by simpa using ha
            simp only [ha', Bool.false_eq_true, if_false]
            obtain ⟨r', h1, h2⟩ := hr.get h
            refine ⟨r', ?_, h2⟩
            have hc := hcell _ _ h1
            rw [show o0 + (o - o0) = o by omega] at hc
            simp [hc]

noncomputable def storeA (T : Tab) (S : St) (t : TypeId) (v : Value) : Value → Option St
  | .pointer (some ⟨b, o, none⟩) =>
    match S.get b, T.info t with
    | some (.cells cs tt g), some i =>
      if v.cells.size = i.size ∧ o + v.cells.toList.length ≤ cs.length ∧ ones v.cells.toList = true then some (S.set b (.cells (splice cs o v.cells.toList) tt g)) else none
    | _, _ => none
  | _ => none

/-- cells of a block are put anew -/
theorem does_splice {b b' κ : Nat} {cs vs vs' : List Value} {tt : TypeId} {g o : Nat} (hS : SR w0 E S w) (hb : S.get b = some (.cells cs tt g)) (hb' : E b = some (b', κ))
    (hl : o + vs.length ≤ cs.length) (h1 : ones vs = true) (hv : VRs E vs vs') :
    ∃ w', (storeCells ⟨b', o, none⟩ vs').run P w = .ok () w' ∧ SR w0 E (S.set b (.cells (splice cs o vs) tt g)) w' ∧ w.heap.size = w'.heap.size := by
  obtain ⟨cs', pad, hh, hr, hp, hq⟩ := hS.cells hb hb'
  have hl' : o + vs'.length ≤ cs'.length := by rw [← hr.length, ← hv.length]; exact hl
  refine ⟨_, run_storeCells_list hh (by simp; omega) (hv.ones h1), hS.put hb rfl hb' _ _ ?_, (putB_size _ _ _).symm⟩
  intro w' hw'
  refine ⟨b', κ, splice cs' o vs', pad, hb', ?_, hr.splice o hv, hp, fun hg => by rw [splice_length _ _ _ hl]; exact ⟨hq hg, hS.cellsK hb hg hb'⟩⟩
  rw [hw']
  congr 3
  unfold splice
  rw [List.take_append_of_le_length (by omega), List.drop_append_of_le_length (by omega)]
  simp
include hT in
theorem does_store {t : TypeId} {v v' a a' : Value} {S' : St} (h : storeA T S t v a = some S') (hS : SR w0 E S w) (hv : VR E v v') (ha : VR E a a') : DoesU P w0 E S w (Instr.storeAt t a' v') S' := by
  unfold storeA at h
  split at h
  case h_2 => cases h
  case h_1 b o =>
    split at h
    case h_2 => cases h
    case h_1 cs tt g i hb hi =>
      split at h
      case isFalse => cases h
      case isTrue hc =>
        cases h
        obtain ⟨c1, c2, c3⟩ := hc
        cases ha with
        | sc hx => simp [scalar] at hx
        | ptr o hb' =>
          rename_i b' κ
          obtain ⟨w', h1, h2, h3⟩ := does_splice (P := P) hS hb hb' c2 c3 hv.cells
          refine ⟨w', E, ?_, .refl E, h2, Keeps.set (St.get_lt hb) _, by omega⟩
          have hz : v'.cells.size = i.size := by
            have := hv.cells.length
            simp only [Array.length_toList] at this
            omega
          simp only [Instr.storeAt, Instr.sureAddr, storeVar, Sem.run_bind, Sem.run_pure, Result.andThen_ok, run_size hT hi, hz]
          simp [h1]
end
end Go.Ax
end
/- part AxE -/
section
/- Single operations, continued: addresses, parts of structs, building. -/
namespace Go.Ax
open Go.RowKit

section
variable {P : Program} {T : Tab} (hT : TabOK P T) {w0 : Base} {E : Env} {S : St} {w : World}

noncomputable def fieldAddrA (T : Tab) (s : TypeId) (f : Nat) : Value → Option Value
  | .pointer (some ⟨b, o, none⟩) =>
    match T.und s with
    | some (.struct fs) =>
      match fs[f]? with
      | some fl => match T.info fl.type with
        | some i => if i.size = 0 then none else some (.pointer (some ⟨b, o + fl.offset, none⟩))
        | none => none
      | none => none
    | _ => none
  | _ => none
include hT in
theorem does_fieldAddr {s : TypeId} {f : Nat} {v v' r : Value} (h : fieldAddrA T s f v = some r) (hv : VR E v v') : ∃ r', (Instr.fieldAt s v' f).run P w = .ok r' w ∧ VR E r r' := by
  unfold fieldAddrA at h
  split at h
  case h_2 => cases h
  case h_1 b o =>
    split at h
    case h_2 => cases h
    case h_1 fs hu =>
      split at h
      case h_2 => cases h
      case h_1 fl hf =>
        split at h
        case h_2 => cases h
        case h_1 i hi =>
          split at h
          case isTrue => cases h
          case isFalse hz =>
            cases h
            cases hv with
            | sc hx => simp [scalar] at hx
            | ptr o hb' =>
              refine ⟨_, ?_, VR.ptr _ hb'⟩
              simp [Instr.fieldAt, run_und hT hu, hf, Instr.sureAddr, fieldPlace, run_size hT hi, hz, add_at]

noncomputable def fieldA (T : Tab) (s : TypeId) (f : Nat) : Value → Option Value
  | .agg cs =>
    match T.und s with
    | some (.struct fs) =>
      match fs[f]? with
      | some fl => match T.und fl.type, T.info fl.type with
        | some d, some i => if aggT d then (if fl.offset + i.size ≤ cs.toList.length then some (.agg ((cs.toList.drop fl.offset).take i.size).toArray) else none) else cs.toList[fl.offset]?
        | _, _ => none
      | none => none
    | _ => none
  | _ => none
include hT in
theorem run_part {t : TypeId} {d : TypeDesc} {i : TI} (hd : T.und t = some d) (hi : T.info t = some i) (cs : List Value) (o : Nat) (r : Value)
    (h : (if aggT d then (if o + i.size ≤ cs.length then some (Value.agg ((cs.drop o).take i.size).toArray) else none) else cs[o]?) = some r) :
    (part t cs.toArray o).run P w = .ok r w := by
  unfold part
  simp only [Sem.run_bind, run_agg hT hd, Result.andThen_ok]
  split at h
  case isTrue ha =>
    simp only [ha, if_true]
    split at h
    case isFalse => cases h
    case isTrue hl =>
      cases h
      simp only [Sem.run_bind, run_size hT hi, Result.andThen_ok, Sem.run_pure]
      congr 2
      apply Array.ext'
      simp
  case isFalse ha =>
    have ha' : aggT d = false := by simpa using ha
    simp [ha', h]
theorem part_rel {d : TypeDesc} {i : TI} {cs cs' : List Value} (hc : VRs E cs cs') (o : Nat) (r : Value)
    (h : (if aggT d then (if o + i.size ≤ cs.length then some (Value.agg ((cs.drop o).take i.size).toArray) else none) else cs[o]?) = some r) :
    ∃ r', (if aggT d then (if o + i.size ≤ cs'.length then some (Value.agg ((cs'.drop o).take i.size).toArray) else none) else cs'[o]?) = some r' ∧ VR E r r' := by
  split at h
  case isTrue ha =>
    split at h
    case isFalse => cases h
    case isTrue hl =>
      cases h
      rw [hc.length] at hl
      exact ⟨_, by rw [if_pos ha, if_pos hl], VR.agg ((hc.drop o).take i.size)⟩
  case isFalse ha =>
    obtain ⟨r', h1, h2⟩ := hc.get h
    exact ⟨r', by rw [if_neg ha]; exact h1, h2⟩
include hT in
theorem does_field {s : TypeId} {f : Nat} {v v' r : Value} (h : fieldA T s f v = some r) (hv : VR E v v') : ∃ r', (Instr.field s v' f).run P w = .ok r' w ∧ VR E r r' := by
  unfold fieldA at h
  split at h
  case h_2 => cases h
  case h_1 cs =>
    split at h
    case h_2 => cases h
    case h_1 fs hu =>
      split at h
      case h_2 => cases h
      case h_1 fl hf =>
        split at h
        case h_2 => cases h
        case h_1 d i hd hi =>
          cases hv with
          | sc hx => simp [scalar] at hx
          | agg hc =>
            obtain ⟨r', h1, h2⟩ := part_rel hc _ _ h
            refine ⟨r', ?_, h2⟩
            simp only [Instr.field, Sem.run_bind, run_und hT hu, Result.andThen_ok, hf, asAgg, Sem.run_pure]
            exact run_part hT hd hi _ _ _ h1

noncomputable def indexAddrA (T : Tab) (t : TypeId) (ix : Value) : Value → Option Value
  | .pointer (some ⟨b, o, none⟩) =>
    match T.und t, ix with
    | some (.array len e), .int _ i => match T.info e with
      | some ti => if 0 ≤ i ∧ i < len then some (.pointer (some ⟨b, o + i.toNat * ti.size, none⟩)) else none
      | none => none
    | _, _ => none
  | .slice (some ⟨b, o, none⟩) len _ =>
    match T.und t, ix with
    | some (.slice e), .int _ i => match T.info e with
      | some ti => if 0 ≤ i ∧ i < len then some (.pointer (some ⟨b, o + i.toNat * ti.size, none⟩)) else none
      | none => none
    | _, _ => none
  | _ => none
include hT in
theorem does_indexAddr {t : TypeId} {v v' x x' r : Value} (h : indexAddrA T t x v = some r) (hv : VR E v v') (hx : VR E x x') : ∃ r', (Instr.indexAt t v' x').run P w = .ok r' w ∧ VR E r r' := by
  unfold indexAddrA at h
  split at h
  case h_3 => cases h
  case h_1 b o =>
    split at h
    case h_2 => cases h
    case h_1 len e k i hu =>
      split at h
      case h_2 => cases h
      case h_1 ti hi =>
        split at h
        case isFalse => cases h
        case isTrue hc =>
          cases h
          have hx' := hx.scalar_eq rfl
          subst hx'
          cases hv with
          | sc hx => simp [scalar] at hx
          | ptr o hb' =>
            refine ⟨_, ?_, VR.ptr _ hb'⟩
            simp [Instr.indexAt, asIntOf, run_und hT hu, Instr.sureAddr, run_size hT hi, hc, add_at]
  case h_2 b o len c =>
    split at h
    case h_2 => cases h
    case h_1 e k i hu =>
      split at h
      case h_2 => cases h
      case h_1 ti hi =>
        split at h
        case isFalse => cases h
        case isTrue hc =>
          cases h
          have hx' := hx.scalar_eq rfl
          subst hx'
          cases hv with
          | sc hx => simp [scalar] at hx
          | sl o l c hb' =>
            refine ⟨_, ?_, VR.ptr _ hb'⟩
            simp [Instr.indexAt, asIntOf, run_und hT hu, run_size hT hi, hc, add_at]

noncomputable def indexA (T : Tab) (t : TypeId) (ix : Value) : Value → Option Value
  | .agg cs =>
    match T.und t, ix with
    | some (.array len e), .int _ i => match T.und e, T.info e with
      | some d, some ti => if 0 ≤ i ∧ i < len then (if aggT d then (if i.toNat * ti.size + ti.size ≤ cs.toList.length then some (.agg ((cs.toList.drop (i.toNat * ti.size)).take ti.size).toArray) else none) else cs.toList[i.toNat * ti.size]?) else none
      | _, _ => none
    | _, _ => none
  | .string s =>
    match T.und t, ix with
    | some .string, .int _ i => if 0 ≤ i then (match s[i.toNat]? with | some b => some (.int .u8 b.toNat) | none => none) else none
    | _, _ => none
  | _ => none
include hT in
theorem does_index {t : TypeId} {v v' x x' r : Value} (h : indexA T t x v = some r) (hv : VR E v v') (hx : VR E x x') : ∃ r', (Instr.index t v' x').run P w = .ok r' w ∧ VR E r r' := by
  unfold indexA at h
  split at h
  case h_3 => cases h
  case h_1 cs =>
    split at h
    case h_2 => cases h
    case h_1 len e k i hu =>
      split at h
      case h_2 => cases h
      case h_1 d ti hd hi =>
        split at h
        case isFalse => cases h
        case isTrue hc =>
          have hx' := hx.scalar_eq rfl
          subst hx'
          cases hv with
          | sc hx => simp [scalar] at hx
          | agg hcs =>
            obtain ⟨r', h1, h2⟩ := part_rel hcs _ _ h
            refine ⟨r', ?_, h2⟩
            simp only [Instr.index, asIntOf, Sem.run_bind, Sem.run_pure, run_und hT hu, Result.andThen_ok, hc, and_self, if_true, run_size hT hi]
            exact run_part hT hd hi _ _ _ h1
  case h_2 s =>
    split at h
    case h_2 => cases h
    case h_1 k i hu =>
      split at h
      case isFalse => cases h
      case isTrue hc =>
        split at h
        case h_2 => cases h
        case h_1 b hb =>
          cases h
          have hx' := hx.scalar_eq rfl
          subst hx'
          have hv' := hv.scalar_eq rfl
          subst hv'
          refine ⟨_, ?_, VR.sc rfl⟩
          simp [Instr.index, asIntOf, run_und hT hu, hc, hb]

/-! parts laid into a row -/
theorem foldl_set_rel {vs vs' : List Value} (hv : VRs E vs vs') : ∀ (off k : Nat) {cs cs' : List Value}, VRs E cs cs' →
    VRs E (((vs.zipIdx k).foldl (fun (a : Array Value) (x : Value × Nat) => a.setIfInBounds (off + x.2) x.1) cs.toArray)).toList (((vs'.zipIdx k).foldl (fun (a : Array Value) (x : Value × Nat) => a.setIfInBounds (off + x.2) x.1) cs'.toArray)).toList := by
  induction vs generalizing vs' with
  | nil => cases hv; intro off k cs cs' h; simpa using h
  | cons v vs ih =>
    cases hv with
    | cons h1 h2 =>
      intro off k cs cs' h
      simp only [List.zipIdx_cons, List.foldl_cons, List.setIfInBounds_toArray]
      exact ih h2 off (k + 1) (h.set _ h1)
theorem foldl_set_size (l : List (Value × Nat)) (off : Nat) : ∀ (a : Array Value), (l.foldl (fun (a : Array Value) (x : Value × Nat) => a.setIfInBounds (off + x.2) x.1) a).size = a.size := by
  induction l with
  | nil => intro a; rfl
  | cons x l ih => intro a; rw [List.foldl_cons, ih]; simp
inductive PRs (E : Env) : List (Nat × Value) → List (Nat × Value) → Prop
  | nil : PRs E [] []
  | cons {i : Nat} {v v' : Value} {ps ps' : List (Nat × Value)} (h : VR E v v') (h1 : PRs E ps ps') : PRs E ((i, v) :: ps) ((i, v') :: ps')
theorem VR.cells_size {v v' : Value} (h : VR E v v') : v'.cells.size = v.cells.size := by
  have := h.cells.length
  simp only [Array.length_toList] at this
  exact this.symm
theorem zipIdx_foldl (cs a : Array Value) (off : Nat) : (cs.zipIdx.foldl (fun cs (c, j) => cs.setIfInBounds (off + j) c) a) = ((cs.toList.zipIdx 0).foldl (fun (a : Array Value) (x : Value × Nat) => a.setIfInBounds (off + x.2) x.1) a) := by
  rw [← Array.foldl_toList]
  simp
theorem fill_rel (place : Nat → Option (Nat × Nat)) {ps ps' : List (Nat × Value)} (hp : PRs E ps ps') : ∀ {cs cs' r : Array Value}, VRs E cs.toList cs'.toList → Instr.fill place cs ps = some r →
    ∃ r', Instr.fill place cs' ps' = some r' ∧ VRs E r.toList r'.toList := by
  induction hp with
  | nil => intro cs cs' r hc h; simp only [Instr.fill] at h ⊢; cases h; exact ⟨_, rfl, hc⟩
  | cons hv h1 ih =>
    rename_i i v v' ps ps'
    intro cs cs' r hc h
    simp only [Instr.fill] at h ⊢
    split at h
    case h_1 => cases h
    case h_2 off size hpl =>
      have hz : cs'.size = cs.size := by have := hc.length; simp only [Array.length_toList] at this; exact this.symm
      rw [hv.cells_size, hz]
      split at h
      case isTrue => cases h
      case isFalse hne =>
        rw [if_neg hne]
        refine ih ?_ h
        rw [zipIdx_foldl, zipIdx_foldl]
        exact foldl_set_rel hv.cells off 0 hc

noncomputable def placesA (T : Tab) : List Field → Option (List (Nat × Nat))
  | [] => some []
  | f :: fs => match T.info f.type, placesA T fs with
    | some i, some r => some ((f.offset, i.size) :: r)
    | _, _ => none
include hT in
theorem run_places : ∀ {fs : List Field} {r : List (Nat × Nat)}, placesA T fs = some r → (fs.mapM fun f => (do pure (f.offset, ← sizeOf f.type) : Sem (Nat × Nat))).run P w = .ok r w := by
  intro fs
  induction fs with
  | nil => intro r h; simp only [placesA] at h; cases h; simp
  | cons f fs ih =>
    intro r h
    simp only [placesA] at h
    split at h
    case h_2 => cases h
    case h_1 i r' hi hr =>
      cases h
      simp only [List.mapM_cons, Sem.run_bind, run_size hT hi, Result.andThen_ok, Sem.run_pure, ih hr]

noncomputable def buildA (T : Tab) (t : TypeId) (ps : List (Nat × Value)) : Option Value :=
  match T.und t, T.info t with
  | some (.struct fs), some i =>
    if plain i.zero then
      match placesA T fs.toList with
      | some pl => match Instr.fill (fun j => pl.toArray[j]?) i.zero.cells ps with
        | some cs => some (.agg cs)
        | none => none
      | none => none
    else none
  | some (.array _ e), some i =>
    if plain i.zero then
      match T.info e with
      | some ie => match Instr.fill (fun j => some (j * ie.size, ie.size)) i.zero.cells ps with
        | some cs => some (.agg cs)
        | none => none
      | none => none
    else none
  | _, _ => none
include hT in
theorem does_build {t : TypeId} {ps ps' : List (Nat × Value)} {r : Value} (h : buildA T t ps = some r) (hp : PRs E ps ps') : ∃ r', (Instr.build t ps'.toArray).run P w = .ok r' w ∧ VR E r r' := by
  unfold buildA at h
  split at h
  case h_3 => cases h
  case h_1 fs i hu hi =>
    split at h
    case isFalse => cases h
    case isTrue hpl =>
      split at h
      case h_2 => cases h
      case h_1 pl hr =>
        split at h
        case h_2 => cases h
        case h_1 cs hf =>
          cases h
          obtain ⟨r', h1, h2⟩ := fill_rel _ hp (VR.of_plain (E := E) hpl).cells hf
          refine ⟨_, ?_, VR.agg (xs := cs.toList) (xs' := r'.toList) h2⟩
          simp only [Instr.build, Sem.run_bind, run_zero hT hi, run_und hT hu, Result.andThen_ok]
          rw [← Array.toArray_toList (xs := fs), List.mapM_toArray]
          simp only [Sem.run_map, run_places hT hr, Result.andThen_ok, h1]
          rfl
  case h_2 n e i hu hi =>
    split at h
    case isFalse => cases h
    case isTrue hpl =>
      split at h
      case h_2 => cases h
      case h_1 ie hie =>
        split at h
        case h_2 => cases h
        case h_1 cs hf =>
          cases h
          obtain ⟨r', h1, h2⟩ := fill_rel _ hp (VR.of_plain (E := E) hpl).cells hf
          refine ⟨_, ?_, VR.agg (xs := cs.toList) (xs' := r'.toList) h2⟩
          simp [Instr.build, run_zero hT hi, run_und hT hu, run_size hT hie, h1]

end
end Go.Ax
end
/- part AxF -/
section
/- Single operations, continued: rows that are made, cut, copied and grown. -/
namespace Go.Ax
open Go.RowKit

section
variable {P : Program} {T : Tab} (hT : TabOK P T) {w0 : Base} {E : Env} {S : St} {w : World}

noncomputable def zeroRow (z : Value) (n : Nat) : Array Value := (Array.range n).map (fun j => (if n = 0 then (#[] : Array Value) else z.cells)[j % (if n = 0 then (#[] : Array Value) else z.cells).size]!)
noncomputable def buildSliceA (T : Tab) (S : St) (t : TypeId) (len : Nat) (ps : List (Nat × Value)) : Option (Value × St) :=
  match T.und t with
  | some (.slice e) => match T.info e with
    | some i =>
      if plains1 (zeroRow i.zero (len * i.size)).toList = true ∧ len * i.size ≤ 1000000 then
        match Instr.fill (fun j => some (j * i.size, i.size)) (zeroRow i.zero (len * i.size)) ps with
        | some cs => if len < BIG then some (.slice (some ⟨S.n, 0, none⟩) len len, S.push (.cells cs.toList e 0)) else none
        | none => none
      else none
    | none => none
  | _ => none
theorem capOf_lt {κ c : Nat} (h : c < BIG) : capOf κ c = c := by unfold capOf; rw [if_pos h]
theorem VR.slx {b b' κ : Nat} (o l c : Nat) (h : E b = some (b', κ)) (hc : c < BIG) : VR E (.slice (some ⟨b, o, none⟩) l c) (.slice (some ⟨b', o, none⟩) l c) := by
  have := VR.sl o l c h
  rwa [capOf_lt hc] at this
include hT in
theorem does_buildSlice {t : TypeId} {len : Nat} {ps ps' : List (Nat × Value)} {r : Value × St} (h : buildSliceA T S t len ps = some r) (hS : SR w0 E S w) (hp : PRs E ps ps') :
    Does P w0 E S w (Instr.buildSlice t len ps'.toArray) r.1 r.2 := by
  unfold buildSliceA at h
  split at h
  case h_2 => cases h
  case h_1 e hu =>
    split at h
    case h_2 => cases h
    case h_1 i hi =>
      split at h
      case isFalse => cases h
      case isTrue hc =>
        split at h
        case h_2 => cases h
        case h_1 cs hf =>
          split at h
          case isFalse => cases h
          case isTrue hlen =>
            cases h
            obtain ⟨r', h1, h2⟩ := fill_rel _ hp (VRs.of_plains1 (E := E) hc.1) hf
            obtain ⟨E', e1, e2, e3⟩ := does_row hS e h2
            refine ⟨_, _, E', ?_, e1, e2, VR.slx _ _ _ e3 hlen, Keeps.push _ _, by rw [World.size_alloc]; omega⟩
            have h24 : ¬ (len * i.size > 2 ^ 24) := by have := hc.2; omega
            simp only [Instr.buildSlice, Sem.run_bind, run_und hT hu, Result.andThen_ok, run_size hT hi, if_neg h24]
            unfold zeroRow at h1
            by_cases hn : len * i.size = 0
            · simp [hn] at h1
              simp [hn, h1, newRow]
            · simp only [hn, if_false] at h1 ⊢
              simp [run_zero hT hi, h1, newRow]

noncomputable def makeSliceA (T : Tab) (S : St) (t : TypeId) : Value → Value → Option (Value × St)
  | .int _ l, .int _ c =>
    match T.und t with
    | some (.slice e) => match T.info e with
      | some i =>
        if IntKind.i64.wrap l = l ∧ IntKind.i64.wrap c = c ∧ 0 ≤ l ∧ l ≤ c ∧ i.bytes * c ≤ 2 ^ 48 ∧ c.toNat < BIG ∧ plains1 (zeroRow i.zero (c.toNat * i.size)).toList = true then
          some (.slice (some ⟨S.n, 0, none⟩) l.toNat c.toNat, S.push (.cells (zeroRow i.zero (c.toNat * i.size)).toList e 0))
        else none
      | none => none
    | _ => none
  | _, _ => none
include hT in
theorem does_makeSlice {t : TypeId} {x x' y y' : Value} {r : Value × St} (h : makeSliceA T S t x y = some r) (hS : SR w0 E S w) (hx : VR E x x') (hy : VR E y y') :
    Does P w0 E S w (Instr.makeSlice t x' y') r.1 r.2 := by
  unfold makeSliceA at h
  split at h
  case h_2 => cases h
  case h_1 k1 l k2 c =>
    have hx' := hx.scalar_eq rfl
    have hy' := hy.scalar_eq rfl
    subst hx' hy'
    split at h
    case h_2 => cases h
    case h_1 e hu =>
      split at h
      case h_2 => cases h
      case h_1 i hi =>
        split at h
        case isFalse => cases h
        case isTrue hc =>
          cases h
          obtain ⟨c1, c2, c3, c4, c5, c6, c7⟩ := hc
          obtain ⟨E', e1, e2, e3⟩ := does_row hS e (VRs.of_plains1 (E := E) c7)
          refine ⟨_, _, E', ?_, e1, e2, VR.slx _ _ _ e3 c6, Keeps.push _ _, by rw [World.size_alloc]; omega⟩
          obtain ⟨j, hj, hb, hs⟩ := run_bytes hT hi w
          simp only [Instr.makeSlice, Sem.run_bind, run_und hT hu, Result.andThen_ok, asInt, asIntOf, Sem.run_pure, hj, c1, c2, hb]
          have t1 : (decide (c < 0) || decide ((i.bytes : Int) * c > 2 ^ 48)) = false := by
            simp only [Bool.or_eq_false_iff, decide_eq_false_iff_not]; omega
          rw [if_neg (by rw [t1]; simp; omega)]
          simp only [Sem.run_bind, run_askRoom, Result.andThen_ok, run_size hT hi]
          unfold zeroRow
          by_cases hn : c.toNat * i.size = 0
          · have hr : ∀ f : Nat → Value, Array.map f (Array.range 0) = #[] := fun f => by apply Array.ext'; simp
            simp [hn, newRow, hr]
          · simp only [if_neg hn, Array.toArray_toList]
            simp [run_zero hT hi, newRow]

inductive OVR (E : Env) : Option Value → Option Value → Prop
  | none : OVR E none none
  | some {v v' : Value} (h : VR E v v') : OVR E (some v) (some v')
noncomputable def bnd (y : Nat) : Value → Option Nat
  | .int _ i => if 0 ≤ i ∧ i ≤ y then some i.toNat else none
  | _ => none
theorem bnd_le {y n : Nat} {v : Value} (h : bnd y v = some n) : n ≤ y := by
  unfold bnd at h
  split at h
  · split at h
    · cases h; omega
    · cases h
  · cases h
theorem run_bnd {y y' n : Nat} {v v' : Value} (h : bnd y v = some n) (hy : y ≤ y') (hv : VR E v v') (code : BoundsCode) : (Instr.sliceBound v' y' code).run P w = .ok n w := by
  unfold bnd at h
  split at h
  · rename_i k i
    have hv' := hv.scalar_eq rfl
    subst hv'
    split at h
    · rename_i hc
      cases h
      have : 0 ≤ i ∧ i ≤ (y' : Int) := ⟨hc.1, by omega⟩
      simp [Instr.sliceBound, asIntOf, this]
    · cases h
  · cases h
/-- the bounds of a slice expression; 'cap' is at most the true capacity -/
noncomputable def boundsA (len cap : Nat) (lo hi mx : Option Value) : Option (Nat × Nat × Nat) :=
  match (match mx with | some v => bnd cap v | none => some cap) with
  | none => none
  | some m =>
    match (match hi, mx with | some v, _ => bnd m v | none, none => some len | none, some _ => none) with
    | none => none
    | some h =>
      match (match lo with | some v => bnd h v | none => some 0) with
      | none => none
      | some l => some (l, h, m)
theorem run_bounds {isSl : Bool} {len cap cap' l h m : Nat} {lo hi mx lo' hi' mx' : Option Value} (hb : boundsA len cap lo hi mx = some (l, h, m)) (hc : cap ≤ cap')
    (h1 : OVR E lo lo') (h2 : OVR E hi hi') (h3 : OVR E mx mx') :
    (Instr.sliceBounds isSl len cap' lo' hi' mx').run P w = .ok (l, h, if mx.isSome then m else cap') w ∧ l ≤ h ∧ (mx.isSome = true → h ≤ m ∧ m ≤ cap) ∧ (mx = none → m = cap) ∧ (mx = none → hi ≠ none → h ≤ cap) ∧ (hi = none → h = len) := by
  unfold boundsA at hb
  split at hb
  case h_1 => cases hb
  case h_2 m' hm =>
    split at hb
    case h_1 => cases hb
    case h_2 h' hh =>
      split at hb
      case h_1 => cases hb
      case h_2 l' hl =>
        cases hb
        cases h3 with
        | none =>
          simp only [Option.some.injEq] at hm
          subst hm
          cases h2 with
          | none =>
            simp only [Option.some.injEq] at hh
            subst hh
            cases h1 with
            | none =>
              simp only [Option.some.injEq] at hl
              subst hl
              refine ⟨by simp [Instr.sliceBounds], by omega, by simp, by simp, by simp, by simp⟩
            | some hv =>
              refine ⟨by simp [Instr.sliceBounds, run_bnd hl (Nat.le_refl _) hv], bnd_le hl, by simp, by simp, by simp, by simp⟩
          | some hv =>
            have hx := bnd_le hh
            cases h1 with
            | none =>
              simp only [Option.some.injEq] at hl
              subst hl
              refine ⟨by simp [Instr.sliceBounds, run_bnd hh hc hv], by omega, by simp, by simp, fun _ _ => hx, by simp⟩
            | some hv2 =>
              refine ⟨by simp [Instr.sliceBounds, run_bnd hh hc hv, run_bnd hl (Nat.le_refl _) hv2], bnd_le hl, by simp, by simp, fun _ _ => hx, by simp⟩
        | some hm' =>
          have hx := bnd_le hm
          cases h2 with
          | none => cases hh
          | some hv =>
            have hx2 := bnd_le hh
            cases h1 with
            | none =>
              simp only [Option.some.injEq] at hl
              subst hl
              refine ⟨by simp [Instr.sliceBounds, run_bnd hm hc hm', run_bnd hh (Nat.le_refl _) hv], by omega, fun _ => ⟨hx2, hx⟩, by simp, by simp, by simp⟩
            | some hv2 =>
              refine ⟨by simp [Instr.sliceBounds, run_bnd hm hc hm', run_bnd hh (Nat.le_refl _) hv, run_bnd hl (Nat.le_refl _) hv2], bnd_le hl, fun _ => ⟨hx2, hx⟩, by simp, by simp, by simp⟩
end
end Go.Ax
end
/- part AxG -/
section
/- Single operations, continued: slice expressions, append, copy, len. -/
namespace Go.Ax
open Go.RowKit

section
variable {P : Program} {T : Tab} (hT : TabOK P T) {w0 : Base} {E : Env} {S : St} {w : World}

noncomputable def sliceA (T : Tab) (S : St) (t : TypeId) (x : Value) (lo hi mx : Option Value) : Option Value :=
  match x with
  | .slice (some ⟨b, o, none⟩) len c =>
    match T.und t with
    | some (.slice e) => match T.info e with
      | some i =>
        if c < BIG then
          match boundsA len c lo hi mx with
          | some (l, h, m) => some (.slice (some ⟨b, if m = l then o else o + l * i.size, none⟩) (h - l) (m - l))
          | none => none
        else match S.get b with
          | some (.cells cs _ g) =>
            if 0 < i.size ∧ g = i.size ∧ o = (c - BIG) * i.size ∧ o + len * i.size ≤ cs.length then
              match boundsA len ((cs.length - o) / i.size) lo hi mx with
              | some (l, h, m) =>
                if mx.isSome then (if m < BIG then some (.slice (some ⟨b, if m = l then o else o + l * i.size, none⟩) (h - l) (m - l)) else none)
                else if l = 0 ∨ l < h then some (.slice (some ⟨b, o + l * i.size, none⟩) (h - l) (c + l))
                else if l = h then some (.slice (some ⟨b, o + l * i.size, some (l * i.size)⟩) 0 (c + l)) else none
              | none => none
            else none
          | _ => none
      | none => none
    | _ => none
  | .slice none len c =>
    match T.und t with
    | some (.slice e) => match T.info e with
      | some _ => match boundsA len c lo hi mx with
        | some (l, h, m) => some (.slice none (h - l) (m - l))
        | none => none
      | none => none
    | _ => none
  | .slice (some ⟨b, o, some z⟩) 0 c =>
    if c = BIG + BIG then
      match T.und t with
      | some (.slice e) => match T.info e with
        | some _ => match boundsA 0 0 lo hi mx with
          | some _ => some (.slice (some ⟨b, o, some z⟩) 0 c)
          | none => none
        | none => none
      | _ => none
    else none
  | .pointer (some ⟨b, o, none⟩) =>
    match T.und t with
    | some (.array n e) => match T.info e with
      | some i => if n < BIG then
          match boundsA n n lo hi mx with
          | some (l, h, m) => some (.slice (some ⟨b, if m = l then o else o + l * i.size, none⟩) (h - l) (m - l))
          | none => none
        else none
      | none => none
    | _ => none
  | _ => none
theorem capOf_ge {κ c : Nat} (h : ¬ c < BIG) : capOf κ c = κ - (c - BIG) := by unfold capOf; rw [if_neg h]
theorem add_if (b o l sz m : Nat) : (if m = l then (⟨b, o, none⟩ : Addr) else (⟨b, o, none⟩ : Addr).add (l * sz)) = ⟨b, if m = l then o else o + l * sz, none⟩ := by
  by_cases h : m = l
  · rw [if_pos h, if_pos h]
  · rw [if_neg h, if_neg h, add_at]
theorem known_le {cs pad κ g o d len : Nat} (hg : 0 < g) (h : cs + pad = κ * g) (ho : o = d * g) (hl : o + len * g ≤ cs) : len ≤ κ - d ∧ (cs - o) / g ≤ κ - d := by
  subst ho
  have h1 : (d + len) * g ≤ κ * g := by rw [Nat.add_mul]; omega
  have h2 : d + len ≤ κ := Nat.le_of_mul_le_mul_right h1 hg
  refine ⟨by omega, ?_⟩
  have h3 : (cs - d * g) / g ≤ (κ * g - d * g) / g := Nat.div_le_div_right (by omega)
  rw [← Nat.sub_mul, Nat.mul_div_cancel _ hg] at h3
  exact h3
include hT in
theorem does_slice {t : TypeId} {x x' r : Value} {lo hi mx lo' hi' mx' : Option Value} (h : sliceA T S t x lo hi mx = some r) (hS : SR w0 E S w) (hx : VR E x x')
    (h1 : OVR E lo lo') (h2 : OVR E hi hi') (h3 : OVR E mx mx') : ∃ r', (Instr.sliceAt t x' lo' hi' mx').run P w = .ok r' w ∧ VR E r r' := by
  unfold sliceA at h
  split at h
  case h_5 => cases h
  case h_1 b o len c =>
    split at h
    case h_2 => cases h
    case h_1 e hu =>
      split at h
      case h_2 => cases h
      case h_1 i hi' =>
        cases hx with
        | sc hx => simp [scalar] at hx
        | sl o l c hb' =>
          rename_i b' κ
          split at h
          case isTrue hc =>
            split at h
            case h_2 => cases h
            case h_1 l h' m hb =>
              cases h
              obtain ⟨hr, hlh, hm1, hm2, _⟩ := run_bounds (P := P) (w := w) (isSl := true) hb (Nat.le_refl _) h1 h2 h3
              have hm : (if mx.isSome then m else c) = m := by
                cases mx with
                | none => simp [hm2 rfl]
                | some _ => simp
              rw [hm] at hr
              have hmc : m ≤ c := by
                cases mx with
                | none => rw [hm2 rfl]; exact Nat.le_refl _
                | some _ => exact (hm1 rfl).2
              rw [capOf_lt hc]
              refine ⟨_, ?_, VR.slx _ _ _ hb' (by omega)⟩
              simp only [Instr.sliceAt, Sem.run_bind, run_und hT hu, Result.andThen_ok, Instr.slice, hr, run_size hT hi', Sem.run_pure]
              congr 2
              simp only [Option.map_some]
              rw [← apply_ite some, add_if]
          case isFalse hc =>
            split at h
            case h_2 => cases h
            case h_1 cs tt g hb =>
              split at h
              case isFalse => cases h
              case isTrue hk =>
                obtain ⟨k1, k2, k3, k4⟩ := hk
                subst k2
                obtain ⟨cs', pad, hh, hrr, hp, hq⟩ := hS.cells hb hb'
                have hkn := known_le k1 (hq (by omega)) k3 k4
                split at h
                case h_2 => cases h
                case h_1 l h' m hbb =>
                  obtain ⟨hr, hlh, hm1, hm2, hm3, hm4⟩ := run_bounds (P := P) (w := w) (isSl := true) hbb hkn.2 h1 h2 h3
                  rw [capOf_ge hc]
                  split at h
                  case isTrue hmx =>
                    split at h
                    case isFalse => cases h
                    case isTrue hmB =>
                      cases h
                      rw [hmx] at hr
                      simp only [if_true] at hr
                      refine ⟨_, ?_, VR.slx _ _ _ hb' (by omega)⟩
                      simp only [Instr.sliceAt, Sem.run_bind, run_und hT hu, Result.andThen_ok, Instr.slice, hr, run_size hT hi', Sem.run_pure]
                      congr 2
                      simp only [Option.map_some]
                      rw [← apply_ite some, add_if]
                  case isFalse hmx =>
                    have hmx' : mx.isSome = false := by simpa using hmx
                    rw [hmx'] at hr
                    simp only [Bool.false_eq_true, if_false] at hr
                    split at h
                    case isFalse hl =>
                      split at h
                      case isFalse => cases h
                      case isTrue hlh2 =>
                        cases h
                        subst hlh2
                        have hmx2 : mx = none := by cases mx <;> simp_all
                        have hcB : c + l < BIG + BIG := by
                          have hκ := hS.cellsK hb (by omega) hb'
                          have hh' : l ≤ κ - (c - BIG) := by
                            by_cases e : hi = none
                            · rw [hm4 e]; exact hkn.1
                            · exact Nat.le_trans (hm3 hmx2 e) hkn.2
                          unfold BIG at *
                          omega
                        have hv := VR.emp (E := E) (o + l * i.size) (l * i.size) (c + l) hb' hcB
                        rw [capOf_ge (fun hlt => hc (Nat.lt_of_le_of_lt (Nat.le_add_right _ _) hlt)), Nat.sub_add_comm (Nat.le_of_not_lt hc), ← Nat.sub_sub] at hv
                        have hh' : l ≤ κ - (c - BIG) := by
                          by_cases e : hi = none
                          · rw [hm4 e]; exact hkn.1
                          · exact Nat.le_trans (hm3 hmx2 e) hkn.2
                        have hif : (if κ - (c - BIG) - l = 0 then o + l * i.size - l * i.size else o + l * i.size) = (if κ - (c - BIG) = l then o else o + l * i.size) := by
                          by_cases e : κ - (c - BIG) = l
                          · rw [if_pos e, if_pos (by omega)]; omega
                          · rw [if_neg e, if_neg (by omega)]
                        rw [hif] at hv
                        refine ⟨_, ?_, hv⟩
                        generalize κ - (c - BIG) = q at hr ⊢
                        simp only [Instr.sliceAt, Sem.run_bind, run_und hT hu, Result.andThen_ok, Instr.slice, hr, run_size hT hi', Sem.run_pure, Option.map_some, Nat.sub_self]
                        rw [← apply_ite some, add_if]
                    case isTrue hl =>
                      cases h
                      have hmx2 : mx = none := by cases mx <;> simp_all
                      have hh' : h' ≤ κ - (c - BIG) := by
                        by_cases e : hi = none
                        · rw [hm4 e]; exact hkn.1
                        · exact Nat.le_trans (hm3 hmx2 e) hkn.2
                      have hv := VR.sl (E := E) (o + l * i.size) (h' - l) (c + l) hb'
                      rw [capOf_ge (fun hlt => hc (Nat.lt_of_le_of_lt (Nat.le_add_right _ _) hlt)), Nat.sub_add_comm (Nat.le_of_not_lt hc), ← Nat.sub_sub] at hv
                      have hif : (if κ - (c - BIG) = l then o else o + l * i.size) = o + l * i.size := by
                        by_cases e : κ - (c - BIG) = l
                        · have : l = 0 := by rcases hl with hl | hl <;> omega
                          rw [if_pos e, this]; simp
                        · rw [if_neg e]
                      refine ⟨_, ?_, hv⟩
                      generalize κ - (c - BIG) = q at hr hif ⊢
                      simp only [Instr.sliceAt, Sem.run_bind, run_und hT hu, Result.andThen_ok, Instr.slice, hr, run_size hT hi', Sem.run_pure, Option.map_some]
                      rw [← apply_ite some, add_if, hif]
  case h_2 len c =>
    split at h
    case h_2 => cases h
    case h_1 e hu =>
      split at h
      case h_2 => cases h
      case h_1 i hi' =>
        split at h
        case h_2 => cases h
        case h_1 l h' m hb =>
          cases h
          have hx' := hx.scalar_eq rfl
          subst hx'
          obtain ⟨hr, hlh, hm1, hm2, _⟩ := run_bounds (P := P) (w := w) (isSl := true) hb (Nat.le_refl _) h1 h2 h3
          have hm : (if mx.isSome then m else c) = m := by
            cases mx with
            | none => simp [hm2 rfl]
            | some _ => simp
          rw [hm] at hr
          refine ⟨_, ?_, VR.sc rfl⟩
          simp only [Instr.sliceAt, Sem.run_bind, run_und hT hu, Result.andThen_ok, Instr.slice, hr, run_size hT hi', Sem.run_pure]
          simp
  case h_3 b o z c =>
    split at h
    case isFalse => cases h
    case isTrue hcc =>
    split at h
    case h_2 => cases h
    case h_1 e hu =>
      split at h
      case h_2 => cases h
      case h_1 i hi' =>
        split at h
        case h_2 => cases h
        case h_1 q0 hb =>
          cases h
          cases hx with
          | sc hx => simp [scalar] at hx
          | emp o z c hbE hlt => omega
          | dang a g1 g2 g3 g4 =>
            obtain ⟨l, h', m⟩ := q0
            obtain ⟨hr, hlh, hm1, hm2, hm3, hm4⟩ := run_bounds (P := P) (w := w) (isSl := true) hb (Nat.le_refl _) h1 h2 h3
            have hm : (if mx.isSome then m else 0) = m := by
              cases mx with
              | none => simp [hm2 rfl]
              | some _ => simp
            rw [hm] at hr
            have hm0 : m = 0 := by
              cases mx with
              | none => exact hm2 rfl
              | some _ => have := (hm1 rfl).2; omega
            have hh0 : h' = 0 := by
              cases mx with
              | none =>
                by_cases e : hi = none
                · exact hm4 e
                · have := hm3 rfl e; omega
              | some _ => have := (hm1 rfl).1; omega
            have hl0 : l = 0 := by omega
            subst hm0 hl0 hh0
            refine ⟨_, ?_, VR.dang a g1 g2 g3 g4⟩
            simp only [Instr.sliceAt, Sem.run_bind, run_und hT hu, Result.andThen_ok, Instr.slice, hr, run_size hT hi', Sem.run_pure]
            simp
  case h_4 b o =>
    split at h
    case h_2 => cases h
    case h_1 n e hu =>
      split at h
      case h_2 => cases h
      case h_1 i hi' =>
        split at h
        case isFalse => cases h
        case isTrue hn =>
          split at h
          case h_2 => cases h
          case h_1 l h' m hb =>
            cases h
            cases hx with
            | sc hx => simp [scalar] at hx
            | ptr o hb' =>
              obtain ⟨hr, hlh, hm1, hm2, _⟩ := run_bounds (P := P) (w := w) (isSl := false) hb (Nat.le_refl _) h1 h2 h3
              have hm : (if mx.isSome then m else n) = m := by
                cases mx with
                | none => simp [hm2 rfl]
                | some _ => simp
              rw [hm] at hr
              have hmc : m ≤ n := by
                cases mx with
                | none => rw [hm2 rfl]; exact Nat.le_refl _
                | some _ => exact (hm1 rfl).2
              refine ⟨_, ?_, VR.slx _ _ _ hb' (by omega)⟩
              simp only [Instr.sliceAt, Sem.run_bind, run_und hT hu, Result.andThen_ok, Instr.sureAddr, hr, run_size hT hi', Sem.run_pure]
              congr 3
              rw [add_if]

/-- the first n elements of a source -/
noncomputable def srcA (S : St) (size n : Nat) : Value → Option (List Value)
  | .slice none _ _ => if n = 0 then some [] else none
  | .slice (some ⟨b, o, none⟩) _ _ =>
    match S.get b with
    | some (.cells cs _ _) => if o + n * size ≤ cs.length then some ((cs.drop o).take (n * size)) else none
    | some (.ext o0 cs) => if o0 ≤ o ∧ o - o0 + n * size ≤ cs.length then some ((cs.drop (o - o0)).take (n * size)) else none
    | _ => none
  | .slice (some ⟨_, _, some _⟩) _ _ => if n = 0 then some [] else none
  | .string s => some (((s.extract 0 n).data.map fun b => Value.int .u8 b.toNat).toList)
  | _ => none
noncomputable def lenA : Value → Option Nat
  | .slice _ n _ => some n
  | .string s => some s.size
  | _ => none
theorem run_lenOf {v v' : Value} {n : Nat} (h : lenA v = some n) (hv : VR E v v') : (Builtin.lenOf v').run P w = .ok n w := by
  unfold lenA at h
  split at h
  · cases h
    cases hv with
    | sc hx => simp [Builtin.lenOf]
    | sl o l c hb => simp [Builtin.lenOf]
    | emp o z c hb hc => simp [Builtin.lenOf]
    | dang a h1 h2 h3 h4 => simp [Builtin.lenOf]
  · cases h
    have := hv.scalar_eq rfl
    subst this
    simp [Builtin.lenOf]
  · cases h
theorem run_src {size n : Nat} {v v' : Value} {l : List Value} (h : srcA S size n v = some l) (hS : SR w0 E S w) (hv : VR E v v') :
    ∃ l', (Builtin.firstCells size n v').run P w = .ok l'.toArray w ∧ VRs E l l' := by
  unfold srcA at h
  split at h
  case h_5 => cases h
  case h_3 b o z l2 c =>
    split at h
    case isFalse => cases h
    case isTrue hn =>
      cases h
      subst hn
      cases hv with
      | sc hx => simp [scalar] at hx
      | emp o z c hb hc => exact ⟨[], by simp [Builtin.firstCells, loadCells, loadCellsFrom], .nil⟩
      | dang a h1 h2 h3 h4 => exact ⟨[], by simp [Builtin.firstCells, loadCells, loadCellsFrom], .nil⟩
  case h_1 =>
    split at h
    case isFalse => cases h
    case isTrue =>
      cases h
      have := hv.scalar_eq rfl
      subst this
      exact ⟨[], by simp [Builtin.firstCells], .nil⟩
  case h_2 b o l2 c =>
    split at h
    case h_3 => cases h
    case h_2 o0 cs hb =>
      split at h
      case isFalse => cases h
      case isTrue hl =>
        cases h
        cases hv with
        | sc hx => simp [scalar] at hx
        | sl o l c hb' =>
          obtain ⟨cs', hr, hcell⟩ := hS.exts hb hb'
          refine ⟨_, ?_, (hr.drop (o - o0)).take (n * size)⟩
          have hl' : o - o0 + n * size ≤ cs'.length := by rw [← hr.length]; exact hl.2
          simp only [Builtin.firstCells]
          refine run_loadCells_known (by simp; omega) (fun k v hk => ?_)
          rw [List.getElem?_take] at hk
          split at hk
          · rw [List.getElem?_drop] at hk
            have := hcell _ _ hk
            rw [show o + k = o0 + (o - o0 + k) by omega]
            exact this
          · cases hk
    case h_1 cs tt g hb =>
      split at h
      case isFalse => cases h
      case isTrue hl =>
        cases h
        cases hv with
        | sc hx => simp [scalar] at hx
        | sl o l c hb' =>
          obtain ⟨cs', pad, hh, hr, _, _⟩ := hS.cells hb hb'
          refine ⟨_, ?_, (hr.drop o).take (n * size)⟩
          have hl' : o + n * size ≤ cs'.length := by rw [← hr.length]; exact hl
          simp only [Builtin.firstCells]
          rw [run_loadCells_at hh o (n * size) (by simp; omega)]
          congr 2
          rw [List.drop_append_of_le_length (by omega), List.take_append_of_le_length (by simp; omega)]
  case h_4 s =>
    cases h
    have := hv.scalar_eq rfl
    subst this
    refine ⟨_, by simp only [Builtin.firstCells, Sem.run_pure], VRs.of_scalars ?_⟩
    unfold scalars
    rw [List.all_eq_true]
    intro x hx
    simp only [Array.toList_map, List.mem_map] at hx
    obtain ⟨b, _, rfl⟩ := hx
    rfl
end
end Go.Ax
end
/- part AxH -/
section
/- Single operations, continued: append and copy. -/
namespace Go.Ax
open Go.RowKit

section
variable {P : Program} {T : Tab} (hT : TabOK P T) {w0 : Base} {E : Env} {S : St} {w : World}

/-- a new object, in a block that no object that is alive holds -/
theorem SR.adopt (hS : SR w0 E S w) (o : AObj) {b κ : Nat} (h1 : w0.heap.size ≤ b) (h2 : b < w.heap.size)
    (hfree : ∀ j oj κ', S.get j = some oj → oj.live = true → E j = some (b, κ') → False) (hnew : OR (E.upd S.n (b, κ)) S.n w o) : SR w0 (E.upd S.n (b, κ)) (S.push o) w := by
  have hE : E.le (E.upd S.n (b, κ)) := Env.upd_le (hS.dom _ (Nat.le_refl _))
  have hlt : ∀ i b1 κ', i ≠ S.n → (E.upd S.n (b, κ)) i = some (b1, κ') → E i = some (b1, κ') := by
    intro i b1 κ' hi he
    unfold Env.upd at he
    rwa [if_neg hi] at he
  refine ⟨St.ok_push hS.len o, ?_, ?_, ?_, ?_, ?_, hS.below, ?_, hS.mono⟩
  · intro i o' hi hn
    by_cases e : i = S.n
    · subst e
      rw [St.get_push_new] at hi
      cases hi
      exact hnew
    · have hi' : i < S.n := by have := St.get_lt hi; unfold St.push at this; simp only at this; omega
      rw [St.get_push_old o hi'] at hi
      exact (hS.obj i o' hi hn).keep hE fun _ _ _ => rfl
  · intro i hi
    obtain ⟨h1, h2⟩ := hS.hole i hi
    refine ⟨by unfold St.push; simp only; omega, ?_⟩
    unfold Env.upd
    rw [if_neg (by omega)]
    exact h2
  · intro i hi
    unfold St.push at hi
    simp only at hi
    unfold Env.upd
    rw [if_neg (by omega)]
    exact hS.dom i (by omega)
  · intro i j oi oj b1 κ1 κ2 hi hai hj haj g1 g2
    have hni : i < S.n + 1 := St.get_lt hi
    have hnj : j < S.n + 1 := St.get_lt hj
    by_cases ei : i = S.n
    · by_cases ej : j = S.n
      · rw [ei, ej]
      · subst ei
        rw [Env.upd_same] at g1
        cases g1
        rw [St.get_push_old o (by omega)] at hj
        exact (hfree j oj κ2 hj haj (hlt _ _ _ ej g2)).elim
    · by_cases ej : j = S.n
      · subst ej
        rw [Env.upd_same] at g2
        cases g2
        rw [St.get_push_old o (by omega)] at hi
        exact (hfree i oi κ1 hi (AObj.live_of hai) (hlt _ _ _ ei g1)).elim
      · rw [St.get_push_old o (by omega)] at hi hj
        exact hS.inj i j oi oj b1 κ1 κ2 hi hai hj haj (hlt _ _ _ ei g1) (hlt _ _ _ ej g2)
  · intro i b1 κ' hb
    by_cases e : i = S.n
    · subst e
      rw [Env.upd_same] at hb
      cases hb
      exact ⟨.inr h1, h2⟩
    · exact hS.rng _ _ _ (hlt _ _ _ e hb)
  · intro i oi b1 κ' hi hai hb
    by_cases e : i = S.n
    · subst e
      rw [Env.upd_same] at hb
      cases hb
      exact h1
    · have hni : i < S.n + 1 := St.get_lt hi
      rw [St.get_push_old o (by omega)] at hi
      exact hS.new i oi b1 κ' hi hai (hlt _ _ _ e hb)

/-- a block that grows in place: the elder object is given up -/
theorem SR.regrow (hS : SR w0 E S w) {i : Nat} {o : AObj} (hi : S.get i = some o) (ha : o.alive = true) {b κ : Nat} (hb : E i = some (b, κ)) (ob : Obj) (o' : AObj)
    (hnew : ∀ w', w'.heap[b]? = some ob → OR (E.upd S.n (b, κ)) S.n w' o') : SR w0 (E.upd S.n (b, κ)) ((S.set i .dead).push o') (putB w b ob) := by
  have h1 := hS.put hi ha hb .dead ob (fun _ _ => trivial)
  have hr := hS.rng _ _ _ hb
  refine h1.adopt o' (hS.new i o b κ hi ha hb) (by rw [putB_size]; exact hr.2) ?_ (hnew _ (putB_same w ob hr.2))
  intro j oj κ' hj haj hbj
  by_cases e : i = j
  · subst e
    rw [St.get_set_same hS.len (St.get_lt hi)] at hj
    cases hj
    simp [AObj.live] at haj
  · rw [St.get_set_ne (St.get_lt hi) e] at hj
    exact e (hS.inj i j o oj b κ κ' hi ha hj haj hb hbj)

theorem growBy_le (n : Nat) : ∀ (r c : Nat), c ≤ 2 * n + 768 → Builtin.growBy n r c ≤ 2 * n + 768 := by
  intro r
  induction r with
  | zero => intro c h; exact h
  | succ r ih =>
    intro c h
    unfold Builtin.growBy
    split
    · exact h
    · exact ih _ (by omega)
theorem nextcap_le {need c : Nat} (h : c < need) : Builtin.nextslicecap need c ≤ 2 * need + 768 := by
  unfold Builtin.nextslicecap
  split
  · omega
  · split
    · omega
    · exact growBy_le _ _ _ (by omega)

noncomputable def growOk (i : TI) (need : Nat) : Bool := decide ((2 * need + 768) * i.bytes ≤ 281474976710656) && decide (need < 1099511627776)

/-- append's two arguments, the second told as cells -/
noncomputable def appendA (S : St) (e : TypeId) (i : TI) (s : Value) (n : Nat) (news : List Value) : Option (Value × St) :=
  match s with
  | .slice none 0 0 =>
    if n = 0 then some (.slice none 0 0, S)
    else if growOk i n = true then some (.slice (some ⟨S.n, 0, none⟩) n BIG, S.push (.cells news e i.size)) else none
  | .slice (some ⟨b, o, none⟩) sLen c =>
    match S.get b with
    | some (.cells cs tt g) =>
      if o + sLen * i.size ≤ cs.length then
        if c < BIG then
          if sLen + n ≤ c then
            if o + (sLen + n) * i.size ≤ cs.length then some (.slice (some ⟨b, o, none⟩) (sLen + n) c, S.set b (.cells (splice cs (o + sLen * i.size) news) tt g)) else none
          else if growOk i (sLen + n) = true then
            some (.slice (some ⟨S.n, 0, none⟩) (sLen + n) BIG, S.push (.cells ((cs.drop o).take (sLen * i.size) ++ news) e i.size))
          else none
        else if g = i.size ∧ o = (c - BIG) * i.size then
          if o + (sLen + n) * i.size ≤ cs.length then some (.slice (some ⟨b, o, none⟩) (sLen + n) c, S.set b (.cells (splice cs (o + sLen * i.size) news) tt g))
          else if o = 0 ∧ sLen * i.size = cs.length ∧ tt = e ∧ growOk i (sLen + n) = true then
            some (.slice (some ⟨S.n, 0, none⟩) (sLen + n) BIG, (S.set b .dead).push (.cells (cs ++ news) e i.size))
          else none
        else none
      else none
    | _ => none
  | _ => none

/-- what append comes to, at the world w, behind its reading of the arguments: where there is room it stores what is to be appended; else it makes a new row -/
structure Tail (P : Program) (w : World) (m : Sem Value) (e : TypeId) (i : TI) (base : Option Addr) (sLen sCap n : Nat) (s : Value) (appended : Sem (Array Value)) : Prop where
  fits : ∀ {news' : List Value}, sLen + n ≤ sCap → appended.run P w = .ok news'.toArray w → m.run P w = ((match base with | some a => storeCells (a.add (sLen * i.size)) news' | none => pure ()).run P w).andThen fun _ w' => .ok (.slice base (sLen + n) sCap) w'
  grows : ∀ {old' news' : List Value}, sCap < sLen + n → growOk i (sLen + n) = true → (Builtin.firstCells i.size sLen s).run P w.drew = .ok old'.toArray w.drew → appended.run P w.drew = .ok news'.toArray w.drew →
    ∃ newCap, sLen + n ≤ newCap ∧ newCap ≤ 9223372036854775807 ∧ m.run P w = .ok (.slice (some ⟨w.heap.size, 0, none⟩) (sLen + n) newCap) (w.drew.alloc (.cells (old' ++ news' ++ (Builtin.zeroCells i.zero.cells (newCap - (sLen + n))).toList).toArray e))
end
end Go.Ax
end
/- part AxI -/
section
/- append, whole; copy. -/
namespace Go.Ax
open Go.RowKit

section
variable {P : Program} {T : Tab} {w0 : Base} {E : Env} {S : St} {w : World}

theorem zeroCells_size (z : Array Value) (n : Nat) : (Builtin.zeroCells z n).toList.length = n * z.size := by
  simp [Builtin.zeroCells]
theorem BIG_not (κ : Nat) : capOf κ BIG = κ := by
  unfold capOf
  rw [if_neg (Nat.lt_irrefl _)]
  simp
theorem VR.slb {b b' κ : Nat} (o l : Nat) (h : E b = some (b', κ)) : VR E (.slice (some ⟨b, o, none⟩) l BIG) (.slice (some ⟨b', o, none⟩) l κ) := by
  have := VR.sl o l BIG h
  rwa [BIG_not] at this

/-- the new row of a growing append -/
theorem does_grown {e : TypeId} {i : TI} {cs cs' : List Value} (hS : SR w0 E S w) (hc : VRs E cs cs') (hsz : i.zero.cells.size = i.size) (hpos : 0 < i.size) {need newCap : Nat} (hl : cs.length = need * i.size) (hle : need ≤ newCap) (hmx : newCap ≤ 9223372036854775807) :
    ∃ E', E.le E' ∧ SR w0 E' (S.push (.cells cs e i.size)) (w.drew.alloc (.cells (cs' ++ (Builtin.zeroCells i.zero.cells (newCap - need)).toList).toArray e)) ∧ E' S.n = some (w.heap.size, newCap) := by
  have hle' := Env.upd_le (x := (w.heap.size, newCap)) (hS.dom _ (Nat.le_refl _))
  refine ⟨E.upd S.n (w.heap.size, newCap), hle', (hS.drew).push _ _ newCap ?_, Env.upd_same _ _ _⟩
  intro w' hw'
  refine ⟨w.heap.size, newCap, cs', _, Env.upd_same _ _ _, hw', hc.mono hle', fun h => absurd h (by omega), fun _ => ?_⟩
  refine ⟨?_, hmx⟩
  rw [zeroCells_size, hsz, hl, ← Nat.add_mul]
  congr 1
  omega

theorem does_tail {e : TypeId} {i : TI} (hi : T.info e = some i) {s : Value} {base : Option Addr} {sLen sCap n : Nat} {m : Sem Value} {appended : Sem (Array Value)} {news news' : List Value} {r : Value × St}
    (h : appendA S e i s n news = some r) (hS : SR w0 E S w) (hs : VR E s (.slice base sLen sCap)) (hpos : 0 < i.size) (hsz : i.zero.cells.size = i.size)
    (hn : VRs E news news') (hlen : news.length = n * i.size) (h1 : ones news = true) (ha : appended.run P w = .ok news'.toArray w) (ha2 : appended.run P w.drew = .ok news'.toArray w.drew) (ht : Tail P w m e i base sLen sCap n (.slice base sLen sCap) appended) :
    Does P w0 E S w m r.1 r.2 := by
  unfold appendA at h
  split at h
  case h_3 => cases h
  case h_1 =>
    have hs' := hs.scalar_eq rfl
    injection hs' with q1 q2 q3
    subst q1 q2 q3
    split at h
    case isTrue hn0 =>
      subst hn0
      cases h
      refine Does.same hS (v' := .slice none 0 0) ?_ (.sc rfl)
      have := ht.fits (by omega) ha
      simpa using this
    case isFalse hn0 =>
      split at h
      case isFalse => cases h
      case isTrue hg =>
        cases h
        obtain ⟨newCap, hle, hmx, hrun⟩ := ht.grows (old' := []) (by omega) (by rw [Nat.zero_add]; exact hg) (by simp only [Builtin.firstCells]; rfl) ha2
        obtain ⟨E', e1, e2, e3⟩ := does_grown (e := e) hS hn hsz hpos (need := n) hlen (newCap := newCap) (by omega) hmx
        rw [Nat.zero_add] at hrun
        rw [List.nil_append] at hrun
        exact ⟨_, _, E', hrun, e1, e2, .slb _ _ e3, Keeps.push _ _, by rw [World.size_alloc]; simp⟩
  case h_2 b o sl c =>
    split at h
    case h_2 => cases h
    case h_1 cs tt g hb =>
      split at h
      case isFalse => cases h
      case isTrue hl =>
        cases hs with
        | sc hx => simp [scalar] at hx
        | sl o l c hb' =>
          rename_i b' κ
          have hlt := St.get_lt hb
          -- the two ways
          have inplace : sLen + n ≤ capOf κ c → o + (sLen + n) * i.size ≤ cs.length →
              Does P w0 E S w m (.slice (some ⟨b, o, none⟩) (sLen + n) c) (S.set b (.cells (splice cs (o + sLen * i.size) news) tt g)) := by
            intro hfit hin
            have hin' : o + sLen * i.size + news.length ≤ cs.length := by
              rw [hlen]; rw [Nat.add_mul] at hin; omega
            obtain ⟨w', k1, k2, k3⟩ := does_splice (P := P) hS hb hb' hin' h1 hn
            refine ⟨_, w', E, ?_, .refl E, k2, .sl o _ c hb', Keeps.set hlt _, by omega⟩
            rw [ht.fits hfit ha]
            simp [add_at, k1]
          have grown : capOf κ c < sLen + n → growOk i (sLen + n) = true →
              Does P w0 E S w m (.slice (some ⟨S.n, 0, none⟩) (sLen + n) BIG) (S.push (.cells ((cs.drop o).take (sLen * i.size) ++ news) e i.size)) := by
            intro hcap hg
            obtain ⟨cs', pad, hh, hr, hp, hq⟩ := hS.cells hb hb'
            have hl' : o + sLen * i.size ≤ cs'.length := by rw [← hr.length]; exact hl
            have hold : (Builtin.firstCells i.size sLen (.slice (some ⟨b', o, none⟩) sLen (capOf κ c))).run P w.drew = .ok ((cs'.drop o).take (sLen * i.size)).toArray w.drew := by
              simp only [Builtin.firstCells]
              rw [run_loadCells_at (w := w.drew) hh o (sLen * i.size) (by simp; omega)]
              congr 2
              rw [List.drop_append_of_le_length (by omega), List.take_append_of_le_length (by simp; omega)]
            obtain ⟨newCap, hle, hmx, hrun⟩ := ht.grows hcap hg hold ha2
            have hl2 : ((cs.drop o).take (sLen * i.size) ++ news).length = (sLen + n) * i.size := by
              rw [List.length_append, hlen, List.length_take, List.length_drop, Nat.add_mul]
              omega
            obtain ⟨E', e1, e2, e3⟩ := does_grown (e := e) hS (((hr.drop o).take (sLen * i.size)).append hn) hsz hpos hl2 hle hmx
            exact ⟨_, _, E', hrun, e1, e2, .slb _ _ e3, Keeps.push _ _, by rw [World.size_alloc]; simp⟩
          split at h
          case isTrue hc =>
            rw [capOf_lt hc] at inplace grown
            split at h
            case isTrue hfit =>
              split at h
              case isFalse => cases h
              case isTrue hin =>
                cases h
                exact inplace hfit hin
            case isFalse hfit =>
              split at h
              case isFalse => cases h
              case isTrue hg =>
                cases h
                exact grown (by omega) hg
          case isFalse hc =>
            split at h
            case isFalse => cases h
            case isTrue hk =>
              obtain ⟨k1, k2⟩ := hk
              subst k1
              obtain ⟨cs', pad, hh, hr, hp, hq⟩ := hS.cells hb hb'
              have hq' := hq (by omega)
              split at h
              case isTrue hin =>
                cases h
                exact inplace (by rw [capOf_ge hc]; exact (known_le hpos hq' k2 hin).1) hin
              case isFalse hin =>
                split at h
                case isFalse => cases h
                case isTrue hz =>
                  obtain ⟨z1, z2, z3, z4⟩ := hz
                  cases h
                  subst z1 z3
                  have hd : c - BIG = 0 := by
                    rcases Nat.eq_zero_or_pos (c - BIG) with h0 | h0
                    · exact h0
                    · have := Nat.mul_pos h0 hpos
                      omega
                  have hcap : capOf κ c = κ := by rw [capOf_ge hc, hd]; simp
                  rw [hcap] at grown ht
                  by_cases hfit : sLen + n ≤ κ
                  · -- in place
                    have hn' : news'.length = n * i.size := by rw [← hn.length]; exact hlen
                    have hpl : news'.length ≤ pad.length := by
                      have : (sLen + n) * i.size ≤ κ * i.size := Nat.mul_le_mul_right _ hfit
                      rw [Nat.add_mul] at this
                      omega
                    have hcl : cs'.length = sLen * i.size := by rw [← hr.length]; exact z2.symm
                    have hrun := run_storeCells_list (P := P) (o := cs'.length) hh (vs := news') (by simp; omega) (hn.ones h1)
                    have hspl : splice (cs' ++ pad) cs'.length news' = (cs' ++ news') ++ pad.drop news'.length := by
                      unfold splice
                      simp
                    rw [hspl] at hrun
                    refine ⟨.slice (some ⟨b', 0, none⟩) (sLen + n) κ, _, _, ?_, Env.upd_le (hS.dom _ (Nat.le_refl _)), hS.regrow hb rfl hb' (.cells (cs' ++ news' ++ pad.drop news'.length).toArray tt (0, 0)) _ ?_, ?_, ?_, ?_⟩
                    · rw [ht.fits hfit ha]
                      simp only [add_at, Nat.zero_add]
                      rw [← hcl]
                      simp only [hrun, Result.andThen_ok]
                    · intro w' hw'
                      refine ⟨b', κ, cs' ++ news', pad.drop news'.length, Env.upd_same _ _ _, hw', (hr.append hn).mono (Env.upd_le (hS.dom _ (Nat.le_refl _))), fun h => absurd h (by omega), fun _ => ?_⟩
                      refine ⟨?_, hS.cellsK hb (by omega) hb'⟩
                      rw [List.length_append, List.length_drop, hn.length]
                      omega
                    · exact .slb _ _ (Env.upd_same _ _ _)
                    · exact (Keeps.set hlt _).trans (Keeps.push _ _)
                    · rw [putB_size]; exact Nat.le_refl _
                  · obtain ⟨v', w', E', g1, g2, g3, g4, g5, g6⟩ := grown (by omega) z4
                    have hE := g3
                    have e1 : (cs.drop 0).take (sLen * i.size) ++ news = cs ++ news := by
                      rw [z2]; simp
                    rw [e1] at g3 g5
                    refine ⟨v', w', E', g1, g2, ?_, g4, (Keeps.set hlt _).trans (Keeps.push _ _), g6⟩
                    have hk := g3.kill (i := b) (by unfold St.push; simp only; omega)
                    have e2 : (S.push (.cells (cs ++ news) tt i.size)).set b .dead = (S.set b .dead).push (.cells (cs ++ news) tt i.size) := by
                      unfold St.push St.set
                      simp only [St.mk.injEq, and_true]
                      have : S.n + 1 - 1 - b = (S.n - 1 - b) + 1 := by omega
                      rw [this, lset_eq, lset_eq, List.set_cons_succ]
                    rw [e2] at hk
                    exact hk
end
end Go.Ax
end
/- part AxJ -/
section
/- The builtins append, copy, len, cap. -/
namespace Go.Ax
open Go.RowKit

section
variable {P : Program} {T : Tab} (hT : TabOK P T) {w0 : Base} {E : Env} {S : St} {w : World}

noncomputable def intT : TypeDesc → Bool
  | .int _ => true
  | _ => false
noncomputable def appendOpA (T : Tab) (S : St) (t1 t2 : TypeId) (s x : Value) : Option (Value × St) :=
  match T.und t1, T.und t2 with
  | some (.slice e), some d2 =>
    match T.info e with
    | some i =>
      if 0 < i.size ∧ i.zero.cells.size = i.size then
        if intT d2 then
          match x with
          | .int _ l =>
            if 0 ≤ l ∧ IntKind.i64.wrap l = l ∧ l * i.bytes ≤ 2 ^ 48 ∧ plains1 (Builtin.zeroCells i.zero.cells l.toNat).toList = true ∧ ones (Builtin.zeroCells i.zero.cells l.toNat).toList = true then
              appendA S e i s l.toNat (Builtin.zeroCells i.zero.cells l.toNat).toList
            else none
          | _ => none
        else
          match lenA x with
          | some n =>
            match srcA S i.size n x with
            | some news => if ones news = true ∧ news.length = n * i.size then appendA S e i s n news else none
            | none => none
          | none => none
      else none
    | none => none
  | _, _ => none
include hT in
theorem append_tail {t1 t2 e : TypeId} {i : TI} {d2 : TypeDesc} (h1 : T.und t1 = some (.slice e)) (h2 : T.und t2 = some d2) (hd : intT d2 = false) (hi : T.info e = some i) (ty : TypeId) (base : Option Addr) (sLen sCap n : Nat) (x : Value)
    (hn : (Builtin.lenOf x).run P w = .ok n w) :
    Tail P w (Builtin.append_ #[t1, t2] ty #[.slice base sLen sCap, x]) e i base sLen sCap n (.slice base sLen sCap) (Builtin.firstCells i.size n x) := by
  obtain ⟨j, hj, hb, hs⟩ := run_bytes hT hi w
  refine ⟨fun {news'} hfit ha => ?_, fun {old' news'} hcap hg k1 k2 => ?_⟩
  · unfold Builtin.append_
    cases d2
    case int k => simp [intT] at hd
    all_goals
      simp only [List.getElem?_toArray, List.getElem?_cons_zero, List.getElem?_cons_succ, Sem.run_bind, run_und hT h1, run_und hT h2, Result.andThen_ok, run_size hT hi, Sem.run_pure, Bool.false_eq_true, if_false, hn, Bool.not_false, if_true]
      rw [if_pos hfit]
      cases base <;> simp [ha]
  · have hji : ∀ w', (typeInfo e).run P w' = .ok j w' := by
      intro w'
      obtain ⟨j2, q1, _, _, _⟩ := hT.info e i hi
      have : (typeInfo e).run P w = .ok j2 w := by simp [typeInfo, q1]
      rw [hj] at this
      cases this
      simp [typeInfo, q1]
    simp only [growOk, Bool.and_eq_true, decide_eq_true_eq] at hg
    have hmax : ¬ ((((sLen + n : Nat) : Int)) > IntKind.i64.max) := by
      have : IntKind.i64.max = 9223372036854775807 := by decide
      rw [this]; omega
    have hroom : ¬ (Builtin.nextslicecap (sLen + n) sCap * j.bytes > 2 ^ 48) := by
      have h1 := Nat.mul_le_mul_right i.bytes (nextcap_le hcap)
      rw [hb]
      omega
    refine ⟨Question.cut (.appendCap (sLen + n) sCap e) (w.tape w.drawn (.appendCap (sLen + n) sCap e)), ?_, ?_, ?_⟩
    · simp only [Question.cut]; omega
    · have hlt := Nat.mod_lt (w.tape w.drawn (.appendCap (sLen + n) sCap e)) (show 0 < 2 ^ 63 - (sLen + n) by omega)
      simp only [Question.cut]; omega
    · unfold Builtin.append_
      cases d2
      case int k => simp [intT] at hd
      all_goals
          simp only [List.getElem?_toArray, List.getElem?_cons_zero, List.getElem?_cons_succ, Sem.run_bind, run_und hT h1, run_und hT h2, Result.andThen_ok, run_size hT hi, Sem.run_pure, Bool.false_eq_true, if_false, hn, Bool.not_false, if_true]
          rw [if_neg (by omega)]
          simp only [Sem.run_bind, hji, Result.andThen_ok, hmax, false_and, if_false, Sem.run_ite, Sem.run_pure, hroom, run_choose, Question.forced, Bool.false_eq_true, World.drew_eq, run_askRoom, k1, k2, run_zero hT hi]
          simp [newRow] <;> (
            generalize Builtin.zeroCells i.zero.cells _ = Z
            have hz : (old' ++ news').toArray ++ Z = (old' ++ (news' ++ Z.toList)).toArray := by apply Array.ext'; simp
            rw [hz]
            try rfl)
include hT in
theorem append_tail0 {t1 t2 e : TypeId} {i : TI} {d2 : TypeDesc} (h1 : T.und t1 = some (.slice e)) (h2 : T.und t2 = some d2) (hd : intT d2 = true) (hi : T.info e = some i) (ty : TypeId) (base : Option Addr) (sLen sCap : Nat) (k : IntKind) (l : Int)
    (q1 : 0 ≤ l) (q2 : IntKind.i64.wrap l = l) (q3 : l * i.bytes ≤ 2 ^ 48) :
    Tail P w (Builtin.append_ #[t1, t2] ty #[.slice base sLen sCap, .int k l]) e i base sLen sCap l.toNat (.slice base sLen sCap) (if l.toNat * i.size = 0 then pure #[] else do pure (Builtin.zeroCells (← zeroValue e).cells l.toNat)) := by
  obtain ⟨kk, rfl⟩ : ∃ kk, d2 = .int kk := by cases d2 <;> first | exact ⟨_, rfl⟩ | (simp [intT] at hd)
  obtain ⟨j, hj, hb, hs⟩ := run_bytes hT hi w
  have hl : ¬ (l < 0) := by omega
  have hr : ¬ (l * (j.bytes : Int) > 2 ^ 48) := by rw [hb]; omega
  refine ⟨fun {news'} hfit ha => ?_, fun {old' news'} hcap hg k1 k2 => ?_⟩
  · unfold Builtin.append_
    simp only [List.getElem?_toArray, List.getElem?_cons_zero, List.getElem?_cons_succ, Sem.run_bind, run_und hT h1, run_und hT h2, Result.andThen_ok, run_size hT hi, Sem.run_pure, if_true, Bool.not_true, Bool.false_eq_true, if_false, asInt, asIntOf, q2, hl, hj, hr]
    rw [if_pos hfit]
    generalize (if l.toNat * i.size = 0 then pure #[] else do pure (Builtin.zeroCells (← zeroValue e).cells l.toNat) : Sem (Array Value)) = app at ha
    cases base <;> simp [ha]
  · have hji : ∀ w', (typeInfo e).run P w' = .ok j w' := by
      intro w'
      obtain ⟨j2, q1, _, _, _⟩ := hT.info e i hi
      have : (typeInfo e).run P w = .ok j2 w := by simp [typeInfo, q1]
      rw [hj] at this
      cases this
      simp [typeInfo, q1]
    simp only [growOk, Bool.and_eq_true, decide_eq_true_eq] at hg
    have hmax : ¬ ((((sLen + l.toNat : Nat) : Int)) > IntKind.i64.max) := by
      have : IntKind.i64.max = 9223372036854775807 := by decide
      rw [this]; omega
    have hroom : ¬ (Builtin.nextslicecap (sLen + l.toNat) sCap * j.bytes > 2 ^ 48) := by
      have h1 := Nat.mul_le_mul_right i.bytes (nextcap_le hcap)
      rw [hb]
      omega
    refine ⟨Question.cut (.appendCap (sLen + l.toNat) sCap e) (w.tape w.drawn (.appendCap (sLen + l.toNat) sCap e)), ?_, ?_, ?_⟩
    · simp only [Question.cut]; omega
    · have hlt := Nat.mod_lt (w.tape w.drawn (.appendCap (sLen + l.toNat) sCap e)) (show 0 < 2 ^ 63 - (sLen + l.toNat) by omega)
      simp only [Question.cut]; omega
    · unfold Builtin.append_
      simp only [List.getElem?_toArray, List.getElem?_cons_zero, List.getElem?_cons_succ, Sem.run_bind, run_und hT h1, run_und hT h2, Result.andThen_ok, run_size hT hi, Sem.run_pure, if_true, Bool.not_true, Bool.false_eq_true, if_false, asInt, asIntOf, q2, hl, hj, hr]
      generalize (if l.toNat * i.size = 0 then pure #[] else do pure (Builtin.zeroCells (← zeroValue e).cells l.toNat) : Sem (Array Value)) = app at k2
      rw [if_neg (by omega)]
      simp only [Sem.run_bind, hji, Result.andThen_ok, hmax, false_and, if_false, Sem.run_ite, Sem.run_pure, hroom, run_choose, Question.forced, Bool.false_eq_true, World.drew_eq, run_askRoom, k1, k2, run_zero hT hi]
      simp [newRow] <;> (
        generalize Builtin.zeroCells i.zero.cells _ = Z
        have hz : (old' ++ news').toArray ++ Z = (old' ++ (news' ++ Z.toList)).toArray := by apply Array.ext'; simp
        rw [hz]
        try rfl)
include hT in
theorem does_append {t1 t2 ty : TypeId} {s s' x x' : Value} {r : Value × St} (h : appendOpA T S t1 t2 s x = some r) (hS : SR w0 E S w) (hs : VR E s s') (hx : VR E x x') :
    Does P w0 E S w (Builtin.append_ #[t1, t2] ty #[s', x']) r.1 r.2 := by
  unfold appendOpA at h
  split at h
  case h_2 => cases h
  case h_1 e d2 h1 h2 =>
    split at h
    case h_2 => cases h
    case h_1 i hi =>
      split at h
      case isFalse => cases h
      case isTrue hz =>
        have hsl : (∃ base sLen sCap, s' = .slice base sLen sCap) ∨ (∀ n news, appendA S e i s n news = none) := by
          cases hs with
          | sc hx =>
            cases s <;> first | exact .inl ⟨_, _, _, rfl⟩ | exact .inr fun _ _ => rfl
          | ptr o hb => exact .inr fun _ _ => rfl
          | sl o l c hb => exact .inl ⟨_, _, _, rfl⟩
          | emp o z c hb hc => exact .inl ⟨_, _, _, rfl⟩
          | dang a h1 h2 h3 h4 => exact .inl ⟨_, _, _, rfl⟩
          | map hb => exact .inr fun _ _ => rfl
          | func h1 h2 h3 => exact .inr fun _ _ => rfl
          | iface t h => exact .inr fun _ _ => rfl
          | agg h => exact .inr fun _ _ => rfl
          | tuple h => exact .inr fun _ _ => rfl
        split at h
        case isTrue hd =>
          split at h
          case h_2 => cases h
          case h_1 k l =>
            split at h
            case isFalse => cases h
            case isTrue hc =>
              obtain ⟨c1, c2, c3, c4, c5⟩ := hc
              rcases hsl with ⟨base, sLen, sCap, rfl⟩ | hsl
              · have hx' := hx.scalar_eq rfl
                subst hx'
                have hrun : ∀ w1 : World, ((if l.toNat * i.size = 0 then pure #[] else do pure (Builtin.zeroCells (← zeroValue e).cells l.toNat)) : Sem (Array Value)).run P w1 = .ok (Builtin.zeroCells i.zero.cells l.toNat).toList.toArray w1 := by
                  intro w1
                  rw [Array.toArray_toList]
                  by_cases hn : l.toNat * i.size = 0
                  · have hl0 : l.toNat = 0 := by
                      rcases Nat.mul_eq_zero.1 hn with h | h
                      · exact h
                      · omega
                    rw [if_pos hn, hl0]
                    simp only [Sem.run_pure]
                    congr 1
                    apply Array.ext'
                    simp [Builtin.zeroCells]
                  · rw [if_neg hn]
                    simp [run_zero hT hi]
                obtain ⟨v', w', E', g1, g2⟩ := does_tail (P := P) hi h hS hs hz.1 hz.2 (VRs.of_plains1 c4) (by rw [zeroCells_size, hz.2]) c5 (hrun w) (hrun w.drew) (append_tail0 hT h1 h2 hd hi ty base sLen sCap k l c1 c2 c3)
                exact ⟨v', w', E', g1, g2⟩
              · rw [hsl] at h; cases h
        case isFalse hd =>
          have hd' : intT d2 = false := by simpa using hd
          split at h
          case h_2 => cases h
          case h_1 n hn =>
            split at h
            case h_2 => cases h
            case h_1 news hnews =>
              split at h
              case isFalse => cases h
              case isTrue hc =>
                rcases hsl with ⟨base, sLen, sCap, rfl⟩ | hsl
                · obtain ⟨l', k1, k2⟩ := run_src (P := P) hnews hS hx
                  obtain ⟨l'', k3, k4⟩ := run_src (P := P) hnews hS.drew hx
                  have : l'' = l' := k4.det k2
                  subst this
                  obtain ⟨v', w', E', g1, g2⟩ := does_tail (P := P) hi h hS hs hz.1 hz.2 k2 hc.2 hc.1 k1 k3 (append_tail hT h1 h2 hd' hi ty base sLen sCap n x' (run_lenOf hn hx))
                  exact ⟨v', w', E', g1, g2⟩
                · rw [hsl] at h; cases h

noncomputable def copyA (T : Tab) (S : St) (t1 : TypeId) (dst src : Value) : Option (Value × St) :=
  match T.und t1, lenA src with
  | some (.slice e), some n2 =>
    match T.info e with
    | some i =>
      match dst with
      | .slice (some ⟨b, o, none⟩) dLen _ =>
        match srcA S i.size (Nat.min n2 dLen) src, S.get b with
        | some news, some (.cells cs tt g) =>
          if o + news.length ≤ cs.length ∧ ones news = true then some (.int .i64 (Nat.min n2 dLen), S.set b (.cells (splice cs o news) tt g)) else none
        | _, _ => none
      | .slice none dLen _ =>
        match srcA S i.size (Nat.min n2 dLen) src with
        | some _ => some (.int .i64 (Nat.min n2 dLen), S)
        | none => none
      | _ => none
    | none => none
  | _, _ => none
include hT in
theorem does_copy {t1 t2 ty : TypeId} {s s' x x' : Value} {r : Value × St} (h : copyA T S t1 s x = some r) (hS : SR w0 E S w) (hs : VR E s s') (hx : VR E x x') :
    Does P w0 E S w (Builtin.copy_ #[t1, t2] ty #[s', x']) r.1 r.2 := by
  unfold copyA at h
  split at h
  case h_2 => cases h
  case h_1 e n2 h1 hn =>
    split at h
    case h_2 => cases h
    case h_1 i hi =>
      split at h
      case h_3 => cases h
      case h_1 b o dLen c =>
        split at h
        case h_2 => cases h
        case h_1 news cs tt g hnews hb =>
          split at h
          case isFalse => cases h
          case isTrue hc =>
            cases h
            cases hs with
            | sc hx => simp [scalar] at hx
            | sl o l c hb' =>
              obtain ⟨l', k1, k2⟩ := run_src (P := P) hnews hS hx
              obtain ⟨w', g1, g2, g3⟩ := does_splice (P := P) hS hb hb' hc.1 hc.2 k2
              refine ⟨_, w', E, ?_, .refl E, g2, .sc rfl, Keeps.set (St.get_lt hb) _, by omega⟩
              simp only [Builtin.copy_, List.getElem?_toArray, List.getElem?_cons_zero, List.getElem?_cons_succ, Sem.run_bind, run_und hT h1, Result.andThen_ok, run_lenOf hn hx, run_size hT hi, k1, g1, Sem.run_pure]
              rfl
      case h_2 dLen c =>
        split at h
        case h_2 => cases h
        case h_1 news hnews =>
          cases h
          have hs' := hs.scalar_eq rfl
          subst hs'
          obtain ⟨l', k1, k2⟩ := run_src (P := P) hnews hS hx
          refine Does.same hS (v' := .int .i64 (Nat.min n2 dLen)) ?_ (.sc rfl)
          simp only [Builtin.copy_, List.getElem?_toArray, List.getElem?_cons_zero, List.getElem?_cons_succ, Sem.run_bind, run_und hT h1, Result.andThen_ok, run_lenOf hn hx, run_size hT hi, k1, Sem.run_pure]
          rfl

theorem ER.length {a b : List MapEntry} (h : ER E a b) : a.length = b.length := by
  induction h with
  | nil => rfl
  | cons _ _ _ _ ih => simp [ih]
theorem SR.map_ (hS : SR w0 E S w) {m : Nat} {es : List MapEntry} {clock : Nat} (h : S.get m = some (.map es clock)) {b κ : Nat} (hb : E m = some (b, κ)) : ∃ es', w.heap[b]? = some (.map es'.toArray clock) ∧ ER E es es' := by
  obtain ⟨b', κ', es', h1, h2, h3⟩ := hS.at h hb
  rw [hb] at h1
  cases h1
  exact ⟨es', h2, h3⟩
theorem run_getObj {b : Nat} {o : Obj} (h : w.heap[b]? = some o) (hc : ∀ c t f, o ≠ .cells c t f) : (getObj b).run P w = .ok o w := by
  simp only [getObj, Sem.run, h]

noncomputable def lenOpA (T : Tab) (S : St) (t : TypeId) : Value → Option Value
  | .string s => match T.und t with
    | some .string => some (.int .i64 s.size)
    | _ => none
  | .slice _ n _ => match T.und t with
    | some (.slice _) => some (.int .i64 n)
    | _ => none
  | .agg _ => match T.und t with
    | some (.array n _) => some (.int .i64 n)
    | _ => none
  | .map none => match T.und t with
    | some (.map _ _) => some (.int .i64 0)
    | _ => none
  | .map (some m) => match T.und t, S.get m with
    | some (.map _ _), some (.map es _) => some (.int .i64 es.length)
    | _, _ => none
  | .pointer _ => match T.und t with
    | some (.pointer a) => match T.und a with
      | some (.array n _) => some (.int .i64 n)
      | _ => none
    | some (.array n _) => some (.int .i64 n)
    | _ => none
  | _ => none
include hT in
theorem does_len {t ty : TypeId} {x x' r : Value} (h : lenOpA T S t x = some r) (hS : SR w0 E S w) (hx : VR E x x') : ∃ r', (Builtin.len_ #[t] ty #[x']).run P w = .ok r' w ∧ VR E r r' := by
  unfold lenOpA at h
  split at h
  case h_7 => cases h
  case h_1 s =>
    split at h
    case h_2 => cases h
    case h_1 hu =>
      cases h
      have hx' := hx.scalar_eq rfl
      subst hx'
      exact ⟨_, by simp [Builtin.len_, run_und hT hu, goInt], .sc rfl⟩
  case h_2 a n c =>
    split at h
    case h_2 => cases h
    case h_1 e hu =>
      cases h
      cases hx with
      | sc hx => exact ⟨_, by simp [Builtin.len_, run_und hT hu, goInt], .sc rfl⟩
      | sl o l c hb => exact ⟨_, by simp [Builtin.len_, run_und hT hu, goInt], .sc rfl⟩
      | emp o z c hb hc => exact ⟨_, by simp [Builtin.len_, run_und hT hu, goInt], .sc rfl⟩
      | dang a h1 h2 h3 h4 => exact ⟨_, by simp [Builtin.len_, run_und hT hu, goInt], .sc rfl⟩
  case h_3 cs =>
    split at h
    case h_2 => cases h
    case h_1 n e hu =>
      cases h
      exact ⟨_, by simp [Builtin.len_, run_und hT hu, goInt], .sc rfl⟩
  case h_4 =>
    split at h
    case h_2 => cases h
    case h_1 k e hu =>
      cases h
      have hx' := hx.scalar_eq rfl
      subst hx'
      exact ⟨_, by simp [Builtin.len_, run_und hT hu, goInt], .sc rfl⟩
  case h_5 m =>
    split at h
    case h_2 => cases h
    case h_1 k e es clock hu hm =>
      cases h
      cases hx with
      | sc hx => simp [scalar] at hx
      | map hb =>
        obtain ⟨es', h1, h2⟩ := hS.map_ hm hb
        have hg := run_getObj (P := P) h1 (by intro c t f h; cases h)
        refine ⟨_, ?_, .sc rfl⟩
        rw [h2.length]
        simp [Builtin.len_, run_und hT hu, goInt, hg]
  case h_6 p =>
    split at h
    case h_3 => cases h
    case h_1 a hu =>
      split at h
      case h_2 => cases h
      case h_1 n e hu2 =>
        cases h
        exact ⟨_, by simp [Builtin.len_, run_und hT hu, run_und hT hu2, goInt], .sc rfl⟩
    case h_2 n e hu =>
      cases h
      exact ⟨_, by simp [Builtin.len_, run_und hT hu, goInt], .sc rfl⟩
end
end Go.Ax
end
/- part AxK -/
section
/- Maps: looking up, storing, deleting, ranging. -/
namespace Go.Ax
open Go.RowKit

noncomputable def pureRun {α : Type} (P : Program) : Sem α → Option α
  | .pure a => some a
  | .program k => pureRun P (k P)
  | .mark _ k => pureRun P k
  | _ => none
theorem run_pureRun {α : Type} {P : Program} (t : Sem α) {a : α} (h : pureRun P t = some a) (w : World) : t.run P w = .ok a w := by
  induction t with
  | pure b => simp only [pureRun, Option.some.injEq] at h; subst h; rfl
  | program k ih => simp only [pureRun] at h; simp only [Sem.run]; exact ih _ h
  | mark m k ih => simp only [pureRun] at h; simp only [Sem.run]; exact ih h
  | _ => simp [pureRun] at h

section
variable {P : Program} {T : Tab} (hT : TabOK P T) {w0 : Base} {E : Env} {S : St} {w : World}

noncomputable def simpleT : TypeDesc → Bool
  | .int _ => true
  | .string => true
  | .bool => true
  | _ => false
noncomputable def checkA (P : Program) (d : TypeDesc) (empty : Bool) (t : TypeId) (k : Value) : Bool :=
  simpleT d || (pureRun P (Instr.checkKey empty 10000 t k)).isSome
include hT in
theorem run_check {d : TypeDesc} {empty : Bool} {t : TypeId} {k : Value} (hd : T.und t = some d) (h : checkA P d empty t k = true) (w : World) : (Instr.checkKey empty 10000 t k).run P w = .ok () w := by
  unfold checkA at h
  rw [Bool.or_eq_true] at h
  rcases h with h | h
  · have : (10000 : Nat) = 9999 + 1 := rfl
    rw [this]
    unfold Instr.checkKey
    simp only [Sem.run_bind, run_und hT hd, Result.andThen_ok]
    cases d <;> first | (simp [simpleT] at h; done) | (cases k <;> rfl)
  · cases hp : pureRun P (Instr.checkKey empty 10000 t k) with
    | none => rw [hp] at h; cases h
    | some u => exact run_pureRun _ hp w

/-- the place of a key, all keys being plain -/
noncomputable def findAskA (P : Program) (t : TypeId) (k : Value) : List MapEntry → Nat → Option (Option Nat)
  | [], _ => some none
  | e :: es, i =>
    match pureRun P (Op.equal t k e.key) with
    | some true => some (some i)
    | some false => findAskA P t k es (i + 1)
    | none => none
noncomputable def keysPlain (es : List MapEntry) : Bool := es.all fun e => plain e.key
noncomputable def findA (P : Program) (d : TypeDesc) (t : TypeId) (k : Value) (es : List MapEntry) : Option (Option Nat) :=
  if keysPlain es && plain k then
    match Instr.findNow d k es 0 with
    | some r => some (r.map (·.1))
    | none => findAskA P t k es 0
  else none
theorem findNow_rel {d : TypeDesc} {k : Value} {es es' : List MapEntry} (h : ER E es es') (hp : keysPlain es = true) : ∀ (j : Nat),
    (Instr.findNow d k es j = none → Instr.findNow d k es' j = none) ∧ (Instr.findNow d k es j = some none → Instr.findNow d k es' j = some none) ∧
    (∀ i v, Instr.findNow d k es j = some (some (i, v)) → j ≤ i ∧ ∃ e', es'[i - j]? = some e' ∧ Instr.findNow d k es' j = some (some (i, e'.val))) := by
  induction h with
  | nil => intro j; simp [Instr.findNow]
  | cons hk hv hb _ ih =>
    intro j
    simp only [keysPlain, List.all_cons, Bool.and_eq_true] at hp
    have hke := hk.plain_eq hp.1
    have ih' := ih (by simpa [keysPlain] using hp.2) (j + 1)
    unfold Instr.findNow
    rw [hke]
    split
    · refine ⟨by simp, by simp, ?_⟩
      intro i v hi
      simp only [Option.some.injEq, Prod.mk.injEq] at hi
      obtain ⟨rfl, rfl⟩ := hi
      exact ⟨Nat.le_refl _, _, by simp, rfl⟩
    · refine ⟨ih'.1, ih'.2.1, ?_⟩
      intro i v hi
      obtain ⟨g1, e', g2, g3⟩ := ih'.2.2 i v hi
      refine ⟨by omega, e', ?_, g3⟩
      have : i - j = (i - (j + 1)) + 1 := by omega
      rw [this, List.getElem?_cons_succ]
      exact g2
    · simp
theorem findAsk_rel {t : TypeId} {k : Value} {es es' : List MapEntry} (h : ER E es es') (hp : keysPlain es = true) : ∀ (j : Nat),
    (findAskA P t k es j = some none → (Instr.findAsking t k es' j).run P w = .ok none w) ∧
    (∀ i, findAskA P t k es j = some (some i) → j ≤ i ∧ ∃ e', es'[i - j]? = some e' ∧ (Instr.findAsking t k es' j).run P w = .ok (some (i, e'.val)) w) := by
  induction h with
  | nil => intro j; simp [findAskA, Instr.findAsking]
  | cons hk hv hb _ ih =>
    intro j
    simp only [keysPlain, List.all_cons, Bool.and_eq_true] at hp
    have hke := hk.plain_eq hp.1
    have ih' := ih (by simpa [keysPlain] using hp.2) (j + 1)
    unfold findAskA Instr.findAsking
    rw [hke]
    cases hq : pureRun P (Op.equal t k _) with
    | none => simp
    | some b =>
      have hr := run_pureRun _ hq w
      cases b with
      | true =>
        refine ⟨by simp, ?_⟩
        intro i hi
        simp only [Option.some.injEq] at hi
        subst hi
        exact ⟨Nat.le_refl _, _, by simp; rfl, by simp [hr]⟩
      | false =>
        refine ⟨fun h => by simp [hr, ih'.1 h], ?_⟩
        intro i hi
        obtain ⟨g1, e', g2, g3⟩ := ih'.2 i hi
        refine ⟨by omega, e', ?_, by simp [hr, g3]⟩
        have : i - j = (i - (j + 1)) + 1 := by omega
        rw [this, List.getElem?_cons_succ]
        exact g2
include hT in
theorem run_find {d : TypeDesc} {t : TypeId} {k k' : Value} {es es' : List MapEntry} {r : Option Nat} (hd : T.und t = some d) (h : findA P d t k es = some r) (hk : VR E k k') (he : ER E es es') :
    k' = k ∧ plain k = true ∧ ((r = none ∧ (Instr.findKey t k' es').run P w = .ok none w) ∨ (∃ i e', r = some i ∧ es'[i]? = some e' ∧ (Instr.findKey t k' es').run P w = .ok (some (i, e'.val)) w)) := by
  unfold findA at h
  split at h
  case isFalse => cases h
  case isTrue hp =>
    rw [Bool.and_eq_true] at hp
    have hk' := hk.plain_eq hp.2
    subst hk'
    refine ⟨rfl, hp.2, ?_⟩
    unfold Instr.findKey
    simp only [Sem.run_bind, run_und hT hd, Result.andThen_ok]
    have hrel := findNow_rel (d := d) (k := k') he hp.1 0
    split at h
    case h_1 q hq =>
      cases h
      cases q with
      | none =>
        left
        refine ⟨rfl, ?_⟩
        simp [hrel.2.1 hq]
      | some p =>
        obtain ⟨i, v⟩ := p
        right
        obtain ⟨_, e', g2, g3⟩ := hrel.2.2 i v hq
        exact ⟨i, e', rfl, by simpa using g2, by simp [g3]⟩
    case h_2 hq =>
      have hrel2 := findAsk_rel (P := P) (w := w) (t := t) (k := k') he hp.1 0
      rw [hrel.1 hq]
      cases r with
      | none => left; exact ⟨rfl, hrel2.1 h⟩
      | some i =>
        right
        obtain ⟨_, e', g2, g3⟩ := hrel2.2 i h
        exact ⟨i, e', rfl, by simpa using g2, g3⟩
theorem ER.get {es es' : List MapEntry} (h : ER E es es') {i : Nat} {e e' : MapEntry} (h1 : es[i]? = some e) (h2 : es'[i]? = some e') : VR E e.key e'.key ∧ VR E e.val e'.val ∧ e'.born = e.born := by
  induction h generalizing i with
  | nil => simp at h1
  | cons hk hv hb _ ih =>
    cases i with
    | zero => simp at h1 h2; subst h1 h2; exact ⟨hk, hv, hb⟩
    | succ i => simp at h1 h2; exact ih h1 h2

noncomputable def lookupA (P : Program) (T : Tab) (S : St) (t : TypeId) (ok : Bool) (k : Value) (m : Value) : Option Value :=
  match T.und t with
  | some (.map kt et) =>
    match T.und kt, T.info et with
    | some d, some i =>
      match (match m with | .map none => some [] | .map (some r) => (match S.get r with | some (.map es _) => some es | _ => none) | _ => none) with
      | some es =>
        if checkA P d es.isEmpty kt k then
          match findA P d kt k es with
          | some none => if plain i.zero then some (if ok then .tuple #[i.zero, .bool false] else i.zero) else none
          | some (some j) => match es[j]? with
            | some e => some (if ok then .tuple #[e.val, .bool true] else e.val)
            | none => none
          | none => none
        else none
      | none => none
    | _, _ => none
  | _ => none
include hT in
theorem does_lookup {t : TypeId} {ok : Bool} {k k' m m' r : Value} (h : lookupA P T S t ok k m = some r) (hS : SR w0 E S w) (hk : VR E k k') (hm : VR E m m') :
    ∃ r', (Instr.lookup t m' k' ok).run P w = .ok r' w ∧ VR E r r' := by
  unfold lookupA at h
  split at h
  case h_2 => cases h
  case h_1 kt et hu =>
    split at h
    case h_2 => cases h
    case h_1 d i hd hi =>
      split at h
      case h_2 => cases h
      case h_1 es hes =>
        have hes' : ∃ es', ER E es es' ∧ ((m' = .map none ∧ es' = []) ∨ ∃ b clock, m' = .map (some b) ∧ (getObj b).run P w = .ok (.map es'.toArray clock) w) := by
          split at hes
          case h_1 =>
            cases hes
            exact ⟨[], .nil, .inl ⟨hm.scalar_eq rfl, rfl⟩⟩
          case h_2 r0 =>
            split at hes
            case h_2 => cases hes
            case h_1 es0 clock hr =>
              cases hes
              cases hm with
              | sc hx => simp [scalar] at hx
              | map hb =>
                obtain ⟨es', h1, h2⟩ := hS.map_ hr hb
                exact ⟨es', h2, .inr ⟨_, clock, rfl, run_getObj (P := P) h1 (by intro c t f h; cases h)⟩⟩
          case h_3 => cases hes
        obtain ⟨es', her, hrun⟩ := hes'
        have hemp : es'.isEmpty = es.isEmpty := by cases her <;> rfl
        split at h
        case isFalse => cases h
        case isTrue hc =>
          rw [← hemp] at hc
          have hc' := run_check hT hd hc w
          split at h
          case h_1 hf =>
            split at h
            case isFalse => cases h
            case isTrue hz =>
              cases h
              obtain ⟨rfl, _, hres⟩ := run_find (w := w) hT hd hf hk her
              rcases hres with ⟨_, g⟩ | ⟨j, e', q, _⟩
              · refine ⟨if ok then .tuple #[i.zero, .bool false] else i.zero, ?_, ?_⟩
                · rcases hrun with ⟨rfl, rfl⟩ | ⟨b, clock, rfl, hg⟩
                  · simp only [List.isEmpty_nil] at hc'
                    simp [Instr.lookup, run_und hT hu, hc', g, run_zero hT hi]
                  · simp [Instr.lookup, run_und hT hu, hg, hc', g, run_zero hT hi]
                · cases ok with
                  | false => exact VR.of_plain hz
                  | true => exact .tuple (.cons (VR.of_plain hz) (.cons (.sc rfl) .nil))
              · cases q
          case h_2 j hf =>
            split at h
            case h_2 => cases h
            case h_1 e hej =>
              cases h
              obtain ⟨rfl, _, hres⟩ := run_find (w := w) hT hd hf hk her
              rcases hres with ⟨q, _⟩ | ⟨j', e', q, q2, g⟩
              · cases q
              · cases q
                obtain ⟨_, hv, _⟩ := her.get hej q2
                refine ⟨if ok then .tuple #[e'.val, .bool true] else e'.val, ?_, ?_⟩
                · rcases hrun with ⟨rfl, rfl⟩ | ⟨b, clock, rfl, hg⟩
                  · simp at q2
                  · simp [Instr.lookup, run_und hT hu, hg, hc', g]
                · cases ok with
                  | false => exact hv
                  | true => exact .tuple (.cons hv (.cons (.sc rfl) .nil))
          case h_3 => cases h
end
end Go.Ax
end
/- part AxL -/
section
/- Maps, continued: storing, deleting, making, ranging. -/
namespace Go.Ax
open Go.RowKit

section
variable {P : Program} {T : Tab} (hT : TabOK P T) {w0 : Base} {E : Env} {S : St} {w : World}

theorem ER.append {a a' b b' : List MapEntry} (h : ER E a a') (h' : ER E b b') : ER E (a ++ b) (a' ++ b') := by
  induction h with
  | nil => exact h'
  | cons hk hv hb _ ih => exact .cons hk hv hb ih
theorem ER.modify {a a' : List MapEntry} (h : ER E a a') (i : Nat) {k v v' : Value} (hk : VR E k k) (hv : VR E v v') :
    ER E (a.modify i fun e => { e with key := k, val := v }) (a'.modify i fun e => { e with key := k, val := v' }) := by
  induction h generalizing i with
  | nil => cases i <;> exact .nil
  | cons hk2 hv2 hb h ih =>
    cases i with
    | zero => simp only [List.modify_zero_cons]; exact .cons hk hv hb h
    | succ i => simp only [List.modify_succ_cons]; exact .cons hk2 hv2 hb (ih i)
theorem ER.eraseIdx {a a' : List MapEntry} (h : ER E a a') (i : Nat) : ER E (a.eraseIdx i) (a'.eraseIdx i) := by
  induction h generalizing i with
  | nil => exact .nil
  | cons hk2 hv2 hb h ih =>
    cases i with
    | zero => simpa using h
    | succ i => simp only [List.eraseIdx_cons_succ]; exact .cons hk2 hv2 hb (ih i)
theorem run_setObj {b : Nat} {o o' : Obj} (h : w.heap[b]? = some o) (hc : ∀ c t f, o ≠ .cells c t f) : (setObj b o').run P w = .ok () (putB w b o') := by
  simp only [setObj, Sem.run, h]
  rfl

noncomputable def mapUpdateA (P : Program) (T : Tab) (S : St) (t : TypeId) (m k v : Value) : Option St :=
  match T.und t, m with
  | some (.map kt _), .map (some r) =>
    match T.und kt, S.get r with
    | some d, some (.map es clock) =>
      if checkA P d false kt k then
        match findA P d kt k es with
        | some none => some (S.set r (.map (es ++ [{ key := k, val := v, born := clock }]) (clock + 1)))
        | some (some j) => match es[j]? with
          | some e => if Instr.sameBits 10000 e.key k then some (S.set r (.map (es.modify j fun e => { e with key := k, val := v }) clock)) else none
          | none => none
        | none => none
      else none
    | _, _ => none
  | _, _ => none
include hT in
theorem does_mapUpdate {t : TypeId} {m m' k k' v v' : Value} {S' : St} (h : mapUpdateA P T S t m k v = some S') (hS : SR w0 E S w) (hm : VR E m m') (hk : VR E k k') (hv : VR E v v') :
    DoesU P w0 E S w (Instr.mapUpdate t m' k' v') S' := by
  unfold mapUpdateA at h
  split at h
  case h_2 => cases h
  case h_1 kt et r hu =>
    split at h
    case h_2 => cases h
    case h_1 d es clock hd hr =>
      cases hm with
      | sc hx => simp [scalar] at hx
      | map hb =>
        rename_i b κ
        obtain ⟨es', h1, her⟩ := hS.map_ hr hb
        have hg := run_getObj (P := P) h1 (by intro c t f h; cases h)
        split at h
        case isFalse => cases h
        case isTrue hc =>
          have hc' := run_check hT hd hc w
          split at h
          case h_1 hf =>
            cases h
            obtain ⟨rfl, hpk, hres⟩ := run_find (w := w) hT hd hf hk her
            rcases hres with ⟨_, g⟩ | ⟨j, e', q, _⟩
            · have hE2 : ER E (es ++ [{ key := k', val := v, born := clock }]) (es' ++ [{ key := k', val := v', born := clock }]) := her.append (.cons hk hv rfl .nil)
              refine ⟨_, E, ?_, .refl E, hS.put hr rfl hb _ _ (fun w' hw' => ⟨b, κ, _, hb, hw', hE2⟩), Keeps.set (St.get_lt hr) _, by rw [putB_size]; exact Nat.le_refl _⟩
              simp only [Instr.mapUpdate, Sem.run_bind, run_und hT hu, Result.andThen_ok, hg, hc', g]
              rw [run_setObj h1 (by intro c t f h; cases h)]
              simp
            · cases q
          case h_2 j hf =>
            split at h
            case h_2 => cases h
            case h_1 e hej =>
              split at h
              case isFalse => cases h
              case isTrue hsb =>
                cases h
                obtain ⟨rfl, hpk, hres⟩ := run_find (w := w) hT hd hf hk her
                rcases hres with ⟨q, _⟩ | ⟨j', e', q, q2, g⟩
                · cases q
                · cases q
                  have hkk : e'.key = e.key := by
                    have hpl : keysPlain es = true := by
                      unfold findA at hf
                      split at hf
                      · rename_i hp; rw [Bool.and_eq_true] at hp; exact hp.1
                      · cases hf
                    exact (her.get hej q2).1.plain_eq (List.all_eq_true.1 hpl e (List.mem_of_getElem? hej))
                  refine ⟨_, E, ?_, .refl E, hS.put hr rfl hb _ _ (fun w' hw' => ⟨b, κ, _, hb, hw', her.modify j hk hv⟩), Keeps.set (St.get_lt hr) _, by rw [putB_size]; exact Nat.le_refl _⟩
                  have hks : (Instr.keyThatStays (((es'.toArray[j]?).map (·.key)).getD k') k').run P w = .ok k' w := by
                    unfold Instr.keyThatStays
                    simp only [List.getElem?_toArray, q2, Option.map_some, Option.getD_some, hkk, hsb, if_true, Sem.run_pure]
                  simp only [Instr.mapUpdate, Sem.run_bind, run_und hT hu, Result.andThen_ok, hg, hc', g, hks]
                  rw [run_setObj h1 (by intro c t f h; cases h)]
                  simp
          case h_3 => cases h

noncomputable def deleteA (P : Program) (T : Tab) (S : St) (t : TypeId) (m k : Value) : Option St :=
  match T.und t, m with
  | some (.map kt _), .map (some r) =>
    match T.und kt, S.get r with
    | some d, some (.map es clock) =>
      if checkA P d es.isEmpty kt k then
        match findA P d kt k es with
        | some none => some (S.set r (.map es clock))
        | some (some j) => some (S.set r (.map (es.eraseIdx j) clock))
        | none => none
      else none
    | _, _ => none
  | _, _ => none
include hT in
theorem does_delete {t t2 ty : TypeId} {m m' k k' : Value} {S' : St} (h : deleteA P T S t m k = some S') (hS : SR w0 E S w) (hm : VR E m m') (hk : VR E k k') :
    Does P w0 E S w (Builtin.delete_ #[t, t2] ty #[m', k']) undef S' := by
  unfold deleteA at h
  split at h
  case h_2 => cases h
  case h_1 kt et r hu =>
    split at h
    case h_2 => cases h
    case h_1 d es clock hd hr =>
      cases hm with
      | sc hx => simp [scalar] at hx
      | map hb =>
        rename_i b κ
        obtain ⟨es', h1, her⟩ := hS.map_ hr hb
        have hg := run_getObj (P := P) h1 (by intro c t f h; cases h)
        have hemp : es'.isEmpty = es.isEmpty := by cases her <;> rfl
        split at h
        case isFalse => cases h
        case isTrue hc =>
          rw [← hemp] at hc
          have hc' := run_check hT hd hc w
          split at h
          case h_1 hf =>
            cases h
            obtain ⟨rfl, hpk, hres⟩ := run_find (w := w) hT hd hf hk her
            rcases hres with ⟨_, g⟩ | ⟨j, e', q, _⟩
            · refine ⟨.tuple #[], _, E, ?_, .refl E, hS.put hr rfl hb _ _ (fun w' hw' => ⟨b, κ, _, hb, hw', her⟩), .tuple .nil, Keeps.set (St.get_lt hr) _, by rw [putB_size]; exact Nat.le_refl _⟩
              simp only [Builtin.delete_, List.getElem?_toArray, List.getElem?_cons_zero, List.getElem?_cons_succ, Sem.run_bind, run_und hT hu, Result.andThen_ok, hg, List.isEmpty_toArray, hc', g]
              rw [run_setObj h1 (by intro c t f h; cases h)]
              simp
            · cases q
          case h_2 j hf =>
            cases h
            obtain ⟨rfl, hpk, hres⟩ := run_find (w := w) hT hd hf hk her
            rcases hres with ⟨q, _⟩ | ⟨j', e', q, q2, g⟩
            · cases q
            · cases q
              refine ⟨.tuple #[], _, E, ?_, .refl E, hS.put hr rfl hb _ _ (fun w' hw' => ⟨b, κ, _, hb, hw', her.eraseIdx j⟩), .tuple .nil, Keeps.set (St.get_lt hr) _, by rw [putB_size]; exact Nat.le_refl _⟩
              have hlt : j < es'.length := by
                rcases Nat.lt_or_ge j es'.length with hlt | hge
                · exact hlt
                · rw [List.getElem?_eq_none hge] at q2; cases q2
              have her2 : es'.toArray.eraseIdxIfInBounds j = (es'.eraseIdx j).toArray := by
                rw [Array.eraseIdxIfInBounds]
                simp [hlt]
              simp only [Builtin.delete_, List.getElem?_toArray, List.getElem?_cons_zero, List.getElem?_cons_succ, Sem.run_bind, run_und hT hu, Result.andThen_ok, hg, List.isEmpty_toArray, hc', g, her2]
              rw [run_setObj h1 (by intro c t f h; cases h)]
              simp
          case h_3 => cases h

noncomputable def makeMapA (S : St) : Value × St := (.map (some S.n), S.push (.map [] 0))
theorem does_makeMap {t : TypeId} (hS : SR w0 E S w) : Does P w0 E S w (Instr.makeMap t none) (makeMapA S).1 (makeMapA S).2 := by
  refine ⟨.map (some w.heap.size), w.alloc (.map #[] 0), E.upd S.n (w.heap.size, 0), by simp [Instr.makeMap], Env.upd_le (hS.dom _ (Nat.le_refl _)), hS.push _ _ _ ?_, .map (Env.upd_same _ _ _), Keeps.push _ _, by rw [World.size_alloc]; omega⟩
  intro w' hw'
  exact ⟨w.heap.size, 0, [], Env.upd_same _ _ _, hw', .nil⟩

noncomputable def rangeA (T : Tab) (S : St) (t : TypeId) (m : Value) : Option (Value × St) :=
  match T.und t, m with
  | some (.map _ _), .map (some r) =>
    match S.get r with
    | some (.map _ clock) => some (.pointer (some ⟨S.n, 0, none⟩), S.push (.iter r clock #[] clock))
    | _ => none
  | _, _ => none
include hT in
theorem does_range {t : TypeId} {m m' : Value} {r : Value × St} (h : rangeA T S t m = some r) (hS : SR w0 E S w) (hm : VR E m m') : Does P w0 E S w (Instr.range t m') r.1 r.2 := by
  unfold rangeA at h
  split at h
  case h_2 => cases h
  case h_1 kt et q hu =>
    split at h
    case h_2 => cases h
    case h_1 es clock hr =>
      cases h
      cases hm with
      | sc hx => simp [scalar] at hx
      | map hb =>
        rename_i b κ
        obtain ⟨es', h1, her⟩ := hS.map_ hr hb
        have hg := run_getObj (P := P) h1 (by intro c t f h; cases h)
        have hle := Env.upd_le (x := (w.heap.size, 0)) (hS.dom _ (Nat.le_refl _))
        refine ⟨.pointer (some ⟨w.heap.size, 0, none⟩), w.alloc (.mapIter (some b) clock #[] clock), E.upd S.n (w.heap.size, 0), by simp [Instr.range, run_und hT hu, hg], hle, hS.push _ _ _ ?_, .ptr 0 (Env.upd_same _ _ _), Keeps.push _ _, by rw [World.size_alloc]; omega⟩
        intro w' hw'
        exact ⟨w.heap.size, 0, b, κ, Env.upd_same _ _ _, hle _ _ hb, hw'⟩
end
end Go.Ax
end
/- part AxM -/
section
/- Ranging over a map: every entry that may come next. -/
namespace Go.Ax
open Go.RowKit

section
variable {P : Program} {T : Tab} {w0 : Base} {E : Env} {S : St} {w : World}

theorem ER.filter {a a' : List MapEntry} (h : ER E a a') (p : Nat → Bool) : ER E (a.filter fun e => p e.born) (a'.filter fun e => p e.born) := by
  induction h with
  | nil => exact .nil
  | cons hk hv hb _ ih =>
    rename_i e e' es es' _
    simp only [List.filter_cons, hb]
    cases hp : p e.born with
    | true => simp only [if_true]; exact .cons hk hv hb ih
    | false => simp only [Bool.false_eq_true, if_false]; exact ih
theorem ER.all {a a' : List MapEntry} (h : ER E a a') (p : Nat → Bool) : (a'.all fun e => p e.born) = (a.all fun e => p e.born) := by
  induction h with
  | nil => rfl
  | cons hk hv hb _ ih => simp only [List.all_cons, hb, ih]
theorem ER.getL {es es' : List MapEntry} (h : ER E es es') {i : Nat} {e' : MapEntry} (h2 : es'[i]? = some e') : ∃ e, es[i]? = some e ∧ VR E e.key e'.key ∧ VR E e.val e'.val ∧ e'.born = e.born := by
  have hl := h.length
  have hlt : i < es'.length := by
    rcases Nat.lt_or_ge i es'.length with hlt | hge
    · exact hlt
    · rw [List.getElem?_eq_none hge] at h2; cases h2
  have h1 : es[i]? = some es[i] := List.getElem?_eq_getElem (by omega)
  exact ⟨_, h1, h.get h1 h2⟩

noncomputable def nextA (S : St) : Value → Option (List (Value × St))
  | .pointer (some ⟨r, 0, none⟩) =>
    match S.get r with
    | some (.iter m since seen last) =>
      match S.get m with
      | some (.map es clock) =>
        if (!seen.isEmpty && !es.isEmpty && es.all fun e => decide (e.born ≥ last)) = true then none
        else some ((if ((es.filter fun e => !seen.contains e.born).filter fun e => decide (e.born < since)).isEmpty then [(.tuple #[.bool false], S)] else []) ++
          ((((es.filter fun e => !seen.contains e.born).filter fun e => decide (e.born < since)) ++ ((es.filter fun e => !seen.contains e.born).filter fun e => decide (e.born ≥ since))).map fun e => (Value.tuple #[.bool true, e.key, e.val], S.set r (.iter m since (seen.push e.born) clock))))
      | _ => none
    | _ => none
  | _ => none
theorem does_next {v v' : Value} {ty : TypeId} {outs : List (Value × St)} (h : nextA S v = some outs) (hS : SR w0 E S w) (hv : VR E v v') :
    ∃ r ∈ outs, Does P w0 E S w (Instr.next v' false ty) r.1 r.2 := by
  unfold nextA at h
  split at h
  case h_2 => cases h
  case h_1 r =>
    split at h
    case h_2 => cases h
    case h_1 m since seen last hr =>
      split at h
      case h_2 => cases h
      case h_1 es clock hm =>
        split at h
        case isTrue => cases h
        case isFalse hno =>
          cases h
          cases hv with
          | sc hx => simp [scalar] at hx
          | ptr o hb =>
            rename_i b κ
            obtain ⟨b2, κ2, mb, mκ, e1, e2, e3⟩ := hS.at hr hb
            rw [hb] at e1
            cases e1
            obtain ⟨es', h1, her⟩ := hS.map_ hm e2
            have hg := run_getObj (P := P) h1 (by intro c t f h; cases h)
            have hg2 := run_getObj (P := P) e3 (by intro c t f h; cases h)
            have hno' : (!seen.isEmpty && !es'.isEmpty && es'.all fun e => decide (e.born ≥ last)) = false := by
              have h1 := her.all fun x => decide (x ≥ last)
              have h2 : es'.isEmpty = es.isEmpty := by cases her <;> rfl
              rw [h1, h2]
              simpa using hno
            have hleft := her.filter fun x => !seen.contains x
            have hold := hleft.filter fun x => decide (x < since)
            have hnew := hleft.filter fun x => decide (x ≥ since)
            generalize hL : ((es.filter fun e => !seen.contains e.born).filter fun e => decide (e.born < since)) = old at *
            generalize hN : ((es.filter fun e => !seen.contains e.born).filter fun e => decide (e.born ≥ since)) = new at *
            generalize hL' : ((es'.filter fun e => !seen.contains e.born).filter fun e => decide (e.born < since)) = old' at *
            generalize hN' : ((es'.filter fun e => !seen.contains e.born).filter fun e => decide (e.born ≥ since)) = new' at *
            have hboth := hold.append hnew
            have hemp : old'.isEmpty = old.isEmpty := by cases hold <;> rfl
            -- the run, the answer being known
            have hrun : ∀ (C : List (Option MapEntry)), C = (if old'.isEmpty then [none] else []) ++ (old' ++ new').map some → ∀ (i : Nat) (w1 : World), (choose (.mapNext C.length)).run P w = .ok i w1 →
                (Instr.next (.pointer (some ⟨b, 0, none⟩)) false ty).run P w = (match C[i]? with
                  | some (some e) => (do setObj b (.mapIter (some mb) since (seen.push e.born) clock); pure (.tuple #[.bool true, e.key, e.val]) : Sem Value).run P w1
                  | some none => .ok (.tuple #[.bool false]) w1
                  | none => .halt (.stuck "Next: no such candidate") w1) := by
              intro C hC i w1 hi
              have hC' : (if (List.filter (fun e => decide (e.born < since)) (List.filter (fun e => !seen.contains e.born) es')).isEmpty then #[none] else #[]) ++ (((List.filter (fun e => decide (e.born < since)) (List.filter (fun e => !seen.contains e.born) es')).toArray ++ (List.filter (fun e => decide (e.born ≥ since)) (List.filter (fun e => !seen.contains e.born) es')).toArray).map some) = C.toArray := by
                rw [hC, hL', hN']
                cases hq : old'.isEmpty <;> simp
              simp only [Instr.next, Sem.run_bind, hg2, hg, Result.andThen_ok, List.isEmpty_toArray, List.all_toArray]
              have hif : ¬ ((!seen.isEmpty && !es'.isEmpty && es'.all fun e => decide (e.born ≥ last)) = true) := by rw [hno']; simp
              rw [if_neg hif]
              simp only [List.size_toArray, Sem.run_bind]
              have hf : ∀ (p : MapEntry → Bool) (l : List MapEntry), Array.filter p l.toArray 0 l.length = (l.filter p).toArray := by
                intro p l
                simp
              simp only [hf, List.size_toArray, List.isEmpty_toArray]
              rw [hC']
              simp only [List.size_toArray, hi, Result.andThen_ok, List.getElem?_toArray]
              cases hCi : C[i]? with
              | none => simp
              | some x => cases x <;> simp
            have hne : 0 < ((if old'.isEmpty then [none] else []) ++ (old' ++ new').map some).length := by
              cases old' <;> simp
            obtain ⟨i, w1, hi, hlt, hw1⟩ : ∃ i w1, (choose (.mapNext ((if old'.isEmpty then [none] else []) ++ (old' ++ new').map some).length)).run P w = .ok i w1 ∧ i < ((if old'.isEmpty then [none] else []) ++ (old' ++ new').map some).length ∧ (w1 = w ∨ w1 = w.drew) := by
              generalize ((if old'.isEmpty then [none] else []) ++ (old' ++ new').map some).length = q at hne ⊢
              rw [run_choose]
              by_cases hq : (Question.mapNext q).forced = true
              · rw [if_pos hq]; exact ⟨0, w, rfl, hne, .inl rfl⟩
              · rw [if_neg hq]; exact ⟨_, _, rfl, by simp only [Question.cut]; exact Nat.mod_lt _ hne, .inr rfl⟩
            have hR := hrun _ rfl i w1 hi
            have hS1 : SR w0 E S w1 := by rcases hw1 with rfl | rfl; exact hS; exact hS.drew
            have hsz1 : w1.heap = w.heap := by rcases hw1 with rfl | rfl <;> rfl
            have e3' : w1.heap[b]? = some (.mapIter (some mb) since seen last) := by rw [hsz1]; exact e3
            cases hold with
            | nil =>
              simp only [List.isEmpty_nil, if_true, List.nil_append] at hR hlt ⊢
              cases i with
              | zero =>
                simp only [List.singleton_append, List.getElem?_cons_zero] at hR
                exact ⟨(.tuple #[.bool false], S), by simp, .tuple #[.bool false], w1, E, hR, .refl E, hS1, .tuple (.cons (.sc rfl) .nil), .refl S, by rw [hsz1]; exact Nat.le_refl _⟩
              | succ i =>
                simp only [List.singleton_append, List.getElem?_cons_succ, List.getElem?_map] at hR
                simp only [List.singleton_append, List.length_cons, List.length_map] at hlt
                have hq : new'[i]? = some (new'[i]'(by omega)) := List.getElem?_eq_getElem (by omega)
                obtain ⟨e, q1, q2, q3, q4⟩ := hnew.getL hq
                rw [hq] at hR
                simp only [Option.map_some, Sem.run_bind] at hR
                rw [run_setObj e3' (by intro c t f h; cases h)] at hR
                simp only [Result.andThen_ok, Sem.run_pure, q4] at hR
                refine ⟨(Value.tuple #[.bool true, e.key, e.val], S.set r (.iter m since (seen.push e.born) clock)), ?_, _, _, E, hR, .refl E, hS1.put hr rfl hb _ _ (fun w' hw' => ⟨b, κ, mb, mκ, hb, e2, hw'⟩), .tuple (.cons (.sc rfl) (.cons q2 (.cons q3 .nil))), Keeps.set (St.get_lt hr) _, by rw [putB_size, hsz1]; exact Nat.le_refl _⟩
                exact List.mem_append_right _ (List.mem_map.2 ⟨e, List.mem_of_getElem? q1, rfl⟩)
            | cons hk hv2 hb2 hrest =>
              simp only [List.isEmpty_cons, Bool.false_eq_true, if_false, List.nil_append] at hR hlt ⊢
              simp only [List.getElem?_map] at hR
              simp only [List.length_map] at hlt
              have hq := List.getElem?_eq_getElem hlt
              obtain ⟨e, q1, q2, q3, q4⟩ := hboth.getL hq
              rw [hq] at hR
              simp only [Option.map_some, Sem.run_bind] at hR
              rw [run_setObj e3' (by intro c t f h; cases h)] at hR
              simp only [Result.andThen_ok, Sem.run_pure, q4] at hR
              refine ⟨(Value.tuple #[.bool true, e.key, e.val], S.set r (.iter m since (seen.push e.born) clock)), ?_, _, _, E, hR, .refl E, hS1.put hr rfl hb _ _ (fun w' hw' => ⟨b, κ, mb, mκ, hb, e2, hw'⟩), .tuple (.cons (.sc rfl) (.cons q2 (.cons q3 .nil))), Keeps.set (St.get_lt hr) _, by rw [putB_size, hsz1]; exact Nat.le_refl _⟩
              exact List.mem_map.2 ⟨e, List.mem_of_getElem? q1, rfl⟩

/-- the entry at which an iterator stands -/
noncomputable def entryA (S : St) : Value → Option Value
  | .pointer (some ⟨r, 0, none⟩) =>
    match S.get r with
    | some (.iter m _ seen stepped) =>
      match seen.back?, S.get m with
      | some stamp, some (.map es clock) => if clock = stepped then
          (match es.find? (fun e => e.born == stamp) with
          | some e => some (.tuple #[e.key, e.val])
          | none => none)
        else none
      | _, _ => none
    | _ => none
  | _ => none
theorem ER.find {a a' : List MapEntry} (h : ER E a a') (p : Nat → Bool) {e : MapEntry} (he : a.find? (fun e => p e.born) = some e) :
    ∃ e', a'.find? (fun e => p e.born) = some e' ∧ VR E e.key e'.key ∧ VR E e.val e'.val := by
  induction h with
  | nil => cases he
  | cons hk hv hb _ ih =>
    rename_i e1 e1' es es' _
    simp only [List.find?_cons, hb] at he ⊢
    cases hp : p e1.born with
    | true =>
      rw [hp] at he
      cases he
      exact ⟨e1', rfl, hk, hv⟩
    | false =>
      rw [hp] at he
      exact ih he
theorem run_entry {v v' r : Value} (h : entryA S v = some r) (hS : SR w0 E S w) (hv : VR E v v') : ∃ r', (Instr.entry v').run P w = .ok r' w ∧ VR E r r' := by
  unfold entryA at h
  split at h
  case h_2 => cases h
  case h_1 r =>
    split at h
    case h_2 => cases h
    case h_1 m since seen stepped hr =>
      split at h
      case h_2 => cases h
      case h_1 stamp es clock hb hm =>
        split at h
        case isFalse => cases h
        case isTrue hc =>
          split at h
          case h_2 => cases h
          case h_1 e he =>
            cases h
            subst hc
            cases hv with
            | sc hx => simp [scalar] at hx
            | ptr o hbb =>
              rename_i b κ
              obtain ⟨b2, κ2, mb, mκ, e1, e2, e3⟩ := hS.at hr hbb
              rw [hbb] at e1
              cases e1
              obtain ⟨es', h1, her⟩ := hS.map_ hm e2
              have hg := run_getObj (P := P) h1 (by intro c t f h; cases h)
              have hg2 := run_getObj (P := P) e3 (by intro c t f h; cases h)
              obtain ⟨e', f1, f2, f3⟩ := her.find (fun x => x == stamp) he
              refine ⟨.tuple #[e'.key, e'.val], ?_, .tuple (.cons f2 (.cons f3 .nil))⟩
              unfold Instr.entry
              simp [hg2, hg, hb, f1]
end
end Go.Ax
end
/- part AxN -/
section
/- One operation, whichever it is. -/
namespace Go.Ax
open Go.RowKit

section
variable {P : Program} {T : Tab} (hT : TabOK P T) {w0 : Base} {E : Env} {S : St} {w : World}

noncomputable def evalA (ts : List Value) : Operand → Option Value
  | .tmp t => some ((lget ts t).getD undef)
  | .const v => if plain v then some v else none
  | .func f => some (.func (.func f) #[] #[])
  | .global _ => none
theorem evalA_ok {ts : List Value} {a : Act} (ht : VRs E ts a.tmps.toList) {x : Operand} {v : Value} (h : evalA ts x = some v) : VR E v (a.eval x) := by
  cases x with
  | tmp t =>
    simp only [evalA, Option.some.injEq, lget_eq, ← List.getD_eq_getElem?_getD] at h
    subst h
    have := ht.getD t (d := undef) (d' := undef) (.tuple .nil)
    simpa [Act.eval] using this
  | const c =>
    simp only [evalA] at h
    split at h
    · rename_i hp; cases h; exact VR.of_plain hp
    · cases h
  | func f =>
    simp only [evalA, Option.some.injEq] at h
    subst h
    exact .func (.func f) .nil .nil
  | global g => cases h
noncomputable def evalsA (ts : List Value) : List Operand → Option (List Value)
  | [] => some []
  | x :: xs => match evalA ts x, evalsA ts xs with
    | some v, some vs => some (v :: vs)
    | _, _ => none
theorem evalsA_ok {ts : List Value} {a : Act} (ht : VRs E ts a.tmps.toList) : ∀ {xs : List Operand} {vs : List Value}, evalsA ts xs = some vs → VRs E vs (xs.map a.eval) := by
  intro xs
  induction xs with
  | nil => intro vs h; simp only [evalsA, Option.some.injEq] at h; subst h; exact .nil
  | cons x xs ih =>
    intro vs h
    simp only [evalsA] at h
    split at h
    · rename_i v vs' hv hvs; cases h; exact .cons (evalA_ok ht hv) (ih hvs)
    · cases h
noncomputable def partsA (ts : List Value) : List (Nat × Operand) → Option (List (Nat × Value))
  | [] => some []
  | (i, x) :: xs => match evalA ts x, partsA ts xs with
    | some v, some vs => some ((i, v) :: vs)
    | _, _ => none
theorem partsA_ok {ts : List Value} {a : Act} (ht : VRs E ts a.tmps.toList) : ∀ {xs : List (Nat × Operand)} {vs : List (Nat × Value)}, partsA ts xs = some vs → PRs E vs (xs.map fun (i, x) => (i, a.eval x)) := by
  intro xs
  induction xs with
  | nil => intro vs h; simp only [partsA, Option.some.injEq] at h; subst h; exact .nil
  | cons x xs ih =>
    obtain ⟨i, x⟩ := x
    intro vs h
    simp only [partsA] at h
    split at h
    · rename_i v vs' hv hvs; cases h; exact .cons (evalA_ok ht hv) (ih hvs)
    · cases h
noncomputable def evalO (ts : List Value) : Option Operand → Option (Option Value)
  | none => some none
  | some x => (evalA ts x).map some
theorem evalO_ok {ts : List Value} {a : Act} (ht : VRs E ts a.tmps.toList) {x : Option Operand} {v : Option Value} (h : evalO ts x = some v) : OVR E v (x.map a.eval) := by
  cases x with
  | none => simp only [evalO, Option.some.injEq] at h; subst h; exact .none
  | some x =>
    simp only [evalO, Option.map_eq_some_iff] at h
    obtain ⟨v', h1, rfl⟩ := h
    exact .some (evalA_ok ht h1)

/-- what an operation does -/
noncomputable def DoesO (P : Program) (w0 : Base) (E : Env) (S : St) (w : World) (s : Sem Next) (v : Value) (S' : St) : Prop :=
  ∃ x v' w' E', s.run P w = .ok x w' ∧ (x = .value v' ∨ (x = .skip ∧ v' = undef)) ∧ E.le E' ∧ SR w0 E' S' w' ∧ VR E' v v' ∧ Keeps S S' ∧ w.heap.size ≤ w'.heap.size
theorem Does.next {s : Sem Value} {v : Value} {S' : St} (h : Does P w0 E S w s v S') : DoesO P w0 E S w (do pure (.value (← s))) v S' := by
  obtain ⟨v', w', E', h1, h2⟩ := h
  exact ⟨.value v', v', w', E', by simp [h1], .inl rfl, h2⟩
theorem DoesU.next {s : Sem Unit} {S' : St} (h : DoesU P w0 E S w s S') : DoesO P w0 E S w (do s; pure .skip) undef S' := by
  obtain ⟨w', E', h1, h2, h3, h4⟩ := h
  exact ⟨.skip, undef, w', E', by simp [h1], .inr ⟨rfl, rfl⟩, h2, h3, .tuple .nil, h4⟩
theorem DoesO.same {s : Sem Next} {v v' : Value} (hS : SR w0 E S w) (h : s.run P w = .ok (.value v') w) (hv : VR E v v') : DoesO P w0 E S w s v S :=
  ⟨_, v', w, E, h, .inl rfl, .refl E, hS, hv, .refl S, Nat.le_refl _⟩
theorem Does.of {s : Sem Value} {v : Value} (hS : SR w0 E S w) (h : ∃ r', s.run P w = .ok r' w ∧ VR E v r') : DoesO P w0 E S w (do pure (.value (← s))) v S := by
  obtain ⟨r', h1, h2⟩ := h
  exact DoesO.same hS (by simp [h1]) h2

noncomputable def isSelect : Op → Bool
  | .select _ _ => true
  | _ => false
noncomputable def plainOps (ts : List Value) (o : Oper) : Bool := o.op.operands.toList.all fun x => match evalA ts x with
  | some v => plain v
  | none => false
noncomputable def evalD (ts : List Value) (x : Operand) : Value := (evalA ts x).getD undef
noncomputable def pureOpA (P : Program) (ts : List Value) (o : Oper) : Option Value :=
  if plainOps ts o && !isSelect o.op then
    match pureRun P (execOp (evalD ts) o) with
    | some (.value v) => if plain v then some v else none
    | _ => none
  else none
theorem does_pure {ts : List Value} {a : Act} {o : Oper} {v : Value} (h : pureOpA P ts o = some v) (hS : SR w0 E S w) (ht : VRs E ts a.tmps.toList) : DoesO P w0 E S w (execOp a.eval o) v S := by
  unfold pureOpA at h
  split at h
  case isFalse => cases h
  case isTrue hc =>
    rw [Bool.and_eq_true] at hc
    obtain ⟨hp, hs⟩ := hc
    split at h
    case h_2 => cases h
    case h_1 v' hr =>
      split at h
      case isFalse => cases h
      case isTrue hpl =>
        cases h
        have hcongr : execOp a.eval o = execOp (evalD ts) o := by
          refine execOp_congr o (fun cs b e => by rw [e] at hs; simp [isSelect] at hs) fun x hx => ?_
          have := List.all_eq_true.1 hp x (by simpa using hx)
          cases he : evalA ts x with
          | none => rw [he] at this; cases this
          | some u =>
            rw [he] at this
            unfold evalD
            rw [he]
            exact (evalA_ok ht he).plain_eq this
        rw [hcongr]
        exact DoesO.same hS (run_pureRun _ hr w) (VR.of_plain hpl)

noncomputable def nilCheckA : Value → Option Value
  | .pointer (some a) => some (.pointer (some a))
  | .func (.func f) xs ys => some (.func (.func f) xs ys)
  | .func (.yield f) xs ys => some (.func (.yield f) xs ys)
  | _ => none
theorem does_nilCheck {x : Operand} {v v' : Value} {o : Oper} {a : Act} (ho : o.op = .nilCheck x) (hx : a.eval x = v') (h : nilCheckA v = some v) (hS : SR w0 E S w) (hv : VR E v v') : DoesO P w0 E S w (execOp a.eval o) v S := by
  refine DoesO.same (v' := v') hS ?_ hv
  unfold execOp
  rw [ho]
  simp only [hx]
  cases hv with
  | sc hs =>
    unfold nilCheckA at h
    split at h <;> first | (simp [scalar] at hs; done) | cases h
  | ptr o h => rfl
  | sl o l c hb => cases h
  | emp o z c hb hc => cases h
  | dang a h1 h2 h3 h4 => cases h
  | map hb => cases h
  | func hf h1 h2 =>
    cases hf with
    | func f => rfl
    | method m => cases h
    | yield hl => rfl
  | iface t h2 => cases h
  | agg h2 => cases h
  | tuple h2 => cases h

noncomputable def nilEqA (T : Tab) (t : TypeId) (x y : Value) : Option Bool :=
  match T.und t, x, y with
  | some (.slice _), .slice (some _) _ _, .slice none _ _ => some false
  | some (.slice _), .slice none _ _, .slice (some _) _ _ => some false
  | some (.map _ _), .map (some _), .map none => some false
  | some (.map _ _), .map none, .map (some _) => some false
  | some (.func _ _ _), .func _ _ _, .nilFunc => some false
  | some (.func _ _ _), .nilFunc, .func _ _ _ => some false
  | some (.pointer _), .pointer (some _), .pointer none => some false
  | some (.pointer _), .pointer none, .pointer (some _) => some false
  | some (.interface _), .nilIface, .iface _ _ => some false
  | some (.interface _), .iface _ _, .nilIface => some false
  | _, _, _ => none
include hT in
theorem run_nilEq {t : TypeId} {x y x' y' : Value} {b : Bool} (h : nilEqA T t x y = some b) (hx : VR E x x') (hy : VR E y y') :
    b = false ∧ (Op.equal t x' y').run P w = .ok false w ∧ (∀ op (ox oy : Operand), (op = .eql ∨ op = .neq) → (eqGuard op t ox oy x' y').run P w = .ok () w) ∧
      (binOp .eql t x' y' = (do pure (.bool (← Op.equal t x' y')))) ∧ (binOp .neq t x' y' = (do pure (.bool (!(← Op.equal t x' y'))))) := by
  have hd : Op.maxDepth = 9999 + 1 := rfl
  unfold nilEqA at h
  split at h
  case h_11 => cases h
  all_goals
    rename_i hu
    cases h
    cases hx <;> first | (simp [scalar] at *; done) | skip
    all_goals (cases hy <;> first | (simp [scalar] at *; done) | skip)
    all_goals
      refine ⟨rfl, ?_, ?_, rfl, rfl⟩
      · unfold Op.equal
        rw [hd]
        unfold Op.equalIn
        simp [run_und hT hu]
      · intro op ox oy hop
        rcases hop with rfl | rfl <;> rfl
end
end Go.Ax
end
/- part AxO -/
section
/- One operation, whichever it is: the table. -/
namespace Go.Ax
open Go.RowKit

section
variable {P : Program} {T : Tab} (hT : TabOK P T) {w0 : Base} {E : Env} {S : St} {w : World}

noncomputable def binA (P : Program) (T : Tab) (ts : List Value) (o : Oper) (op : BinOp) (t : TypeId) (x y : Operand) : Option Value :=
  match evalA ts x, evalA ts y with
  | some vx, some vy =>
    match nilEqA T t vx vy with
    | some _ => (match op with
      | .eql => some (.bool false)
      | .neq => some (.bool true)
      | _ => none)
    | none => pureOpA P ts o
  | _, _ => none
include hT in
theorem does_bin {ts : List Value} {a : Act} {o : Oper} {op : BinOp} {t ty : TypeId} {x y : Operand} {v : Value} (ho : o.op = .binOp op t x y ty) (h : binA P T ts o op t x y = some v) (hS : SR w0 E S w) (ht : VRs E ts a.tmps.toList) :
    DoesO P w0 E S w (execOp a.eval o) v S := by
  unfold binA at h
  split at h
  case h_2 => cases h
  case h_1 vx vy hx hy =>
    split at h
    case h_2 => exact does_pure h hS ht
    case h_1 b hb =>
      obtain ⟨rfl, h1, h2, h3, h4⟩ := run_nilEq (w := w) hT hb (evalA_ok ht hx) (evalA_ok ht hy)
      split at h
      · cases h
        refine DoesO.same (v' := .bool false) hS ?_ (.sc rfl)
        unfold execOp
        rw [ho]
        simp [h2 .eql x y (.inl rfl), h3, h1]
      · cases h
        refine DoesO.same (v' := .bool true) hS ?_ (.sc rfl)
        unfold execOp
        rw [ho]
        simp [h2 .neq x y (.inr rfl), h4, h1]
      · cases h

noncomputable def convA (T : Tab) (s d : TypeId) (v : Value) : Option Value :=
  match T.und s, T.und d, v with
  | some (.int _), some (.int k), .int _ n => some (.int k (k.wrap n))
  | _, _, _ => none
include hT in
theorem run_conv {s d : TypeId} {v v' r : Value} (h : convA T s d v = some r) (hv : VR E v v') : (convert s d v').run P w = .ok r w ∧ VR E r r := by
  unfold convA at h
  split at h
  case h_2 => cases h
  case h_1 k0 k k1 n h1 h2 =>
    cases h
    have := hv.scalar_eq rfl
    subst this
    exact ⟨by simp [convert, run_und hT h1, run_und hT h2, Conv.intToInt], .sc rfl⟩

noncomputable def extractA (i : Nat) : Value → Option Value
  | .tuple vs => vs.toList[i]?
  | _ => none
theorem run_extract {i : Nat} {v v' r : Value} (h : extractA i v = some r) (hv : VR E v v') : ∃ r', (Instr.extract v' i).run P w = .ok r' w ∧ VR E r r' := by
  unfold extractA at h
  split at h
  case h_2 => cases h
  case h_1 vs =>
    cases hv with
    | sc hs => simp [scalar] at hs
    | tuple hh =>
      obtain ⟨y, h1, h2⟩ := hh.get h
      exact ⟨y, by simp [Instr.extract, h1], h2⟩

noncomputable def isIface : TypeDesc → Bool
  | .interface _ => true
  | _ => false
noncomputable def fnOk : Fn → Bool
  | .func _ => true
  | .method _ => true
  | _ => false
theorem FnR.of_ok {f : Fn} (h : fnOk f = true) : FnR E f f := by
  cases f <;> first | exact .func _ | exact .method _ | (simp [fnOk] at h)

noncomputable def clearA (T : Tab) (S : St) (t : TypeId) : Value → Option St
  | .slice none _ _ => some S
  | .slice (some ⟨b, o, none⟩) n _ =>
    match T.und t with
    | some (.slice e) =>
      match T.info e, S.get b with
      | some i, some (.cells cs tt g) =>
        if n = 0 then some S
        else if plains1 (Builtin.zeroCells i.zero.cells n).toList = true ∧ ones (Builtin.zeroCells i.zero.cells n).toList = true ∧ o + (Builtin.zeroCells i.zero.cells n).toList.length ≤ cs.length then
          some (S.set b (.cells (splice cs o (Builtin.zeroCells i.zero.cells n).toList) tt g))
        else none
      | _, _ => none
    | _ => none
  | _ => none
include hT in
theorem does_clear {t ty : TypeId} {v v' : Value} {S' : St} (h : clearA T S t v = some S') (hS : SR w0 E S w) (hv : VR E v v') : (T.und t).isSome = true → Does P w0 E S w (Builtin.clear_ #[t] ty #[v']) undef S' := by
  intro hu0
  obtain ⟨d, hu⟩ := Option.isSome_iff_exists.1 hu0
  unfold clearA at h
  split at h
  case h_3 => cases h
  case h_1 l c =>
    cases h
    have := hv.scalar_eq rfl
    subst this
    refine Does.same hS (v' := undef) ?_ (.tuple .nil)
    simp only [Builtin.clear_, List.getElem?_toArray, List.getElem?_cons_zero, Sem.run_bind, run_und hT hu, Result.andThen_ok]
    cases d <;> rfl
  case h_2 b o n c =>
    split at h
    case h_2 => cases h
    case h_1 e hue =>
      rw [hue] at hu
      cases hu
      split at h
      case h_2 => cases h
      case h_1 i cs tt g hi hb =>
        cases hv with
        | sc hx => simp [scalar] at hx
        | sl o l c hb' =>
          rename_i b' κ
          split at h
          case isTrue hn =>
            cases h
            subst hn
            refine Does.same hS (v' := undef) ?_ (.tuple .nil)
            simp only [Builtin.clear_, List.getElem?_toArray, List.getElem?_cons_zero, Sem.run_bind, run_und hT hue, Result.andThen_ok]
            rfl
          case isFalse hn =>
            split at h
            case isFalse => cases h
            case isTrue hc =>
              cases h
              obtain ⟨c1, c2, c3⟩ := hc
              obtain ⟨w', g1, g2, g3⟩ := does_splice (P := P) hS hb hb' c3 c2 (VRs.of_plains1 c1)
              refine ⟨undef, w', E, ?_, .refl E, g2, .tuple .nil, Keeps.set (St.get_lt hb) _, by omega⟩
              obtain ⟨m, rfl⟩ : ∃ m, n = m + 1 := ⟨n - 1, by omega⟩
              simp only [Builtin.clear_, List.getElem?_toArray, List.getElem?_cons_zero, Sem.run_bind, run_und hT hue, Result.andThen_ok, run_zero hT hi, g1, Sem.run_pure]
              rfl

noncomputable def one (x : Option (Value × St)) : Option (List (Value × St)) := x.map fun r => [r]
noncomputable def onev (S : St) (x : Option Value) : Option (List (Value × St)) := x.map fun r => [(r, S)]
noncomputable def oneu (x : Option St) : Option (List (Value × St)) := x.map fun r => [(undef, r)]

noncomputable def builtinA (P : Program) (T : Tab) (ts : List Value) (S : St) (o : Oper) (b : Builtin) (tys : List TypeId) (args : List Operand) : Option (List (Value × St)) :=
  match b, tys, args with
  | .append, [t1, t2], [x, y] => (match evalA ts x, evalA ts y with | some vx, some vy => one (appendOpA T S t1 t2 vx vy) | _, _ => none)
  | .copy, [t1, _], [x, y] => (match evalA ts x, evalA ts y with | some vx, some vy => one (copyA T S t1 vx vy) | _, _ => none)
  | .delete, [t1, _], [x, y] => (match evalA ts x, evalA ts y with | some vx, some vy => oneu (deleteA P T S t1 vx vy) | _, _ => none)
  | .len, [t], [x] => (match evalA ts x with | some vx => onev S (lenOpA T S t vx) | _ => none)
  | .clear, [t], [x] => (match evalA ts x, T.und t with | some vx, some _ => oneu (clearA T S t vx) | _, _ => none)
  | .min, _, _ => onev S (pureOpA P ts o)
  | .max, _, _ => onev S (pureOpA P ts o)
  | _, _, _ => none

noncomputable def aop (P : Program) (T : Tab) (ts : List Value) (S : St) (o : Oper) : Option (List (Value × St)) :=
  match o.op with
  | .move x => onev S (evalA ts x)
  | .assign x => onev S (evalA ts x)
  | .pick c x y => (match evalA ts c with | some (.bool b) => onev S (if b then evalA ts x else evalA ts y) | _ => none)
  | .alloc t => one (allocA T S t)
  | .box t x => (match evalA ts x with | some v => some [boxA S t v] | none => none)
  | .build t ps => (match partsA ts ps.toList with | some vs => onev S (buildA T t vs) | none => none)
  | .buildSlice t n ps => (match partsA ts ps.toList with | some vs => one (buildSliceA T S t n vs) | none => none)
  | .load t x => (match evalA ts x with | some v => onev S (loadA T S t v) | none => none)
  | .store t x y => (match evalA ts x, evalA ts y with | some a, some v => oneu (storeA T S t v a) | _, _ => none)
  | .nilCheck x => (match evalA ts x with | some v => (match nilCheckA v with | some _ => some [(v, S)] | none => none) | none => none)
  | .binOp op t x y _ => onev S (binA P T ts o op t x y)
  | .unOp _ _ _ => onev S (pureOpA P ts o)
  | .convert s d x => (match evalA ts x with | some v => (match convA T s d v with | some r => some [(r, S)] | none => onev S (pureOpA P ts o)) | none => none)
  | .makeInterface t x => (match evalA ts x, T.und t with | some v, some d => if isIface d then none else some [(.iface t v, S)] | _, _ => none)
  | .makeFunc fn first cap => (match evalsA ts first.toList, evalsA ts cap.toList with | some xs, some ys => if fnOk fn then some [(.func fn xs.toArray ys.toArray, S)] else none | _, _ => none)
  | .makeMap _ none => some [makeMapA S]
  | .makeSlice t x y => (match evalA ts x, evalA ts y with | some vx, some vy => one (makeSliceA T S t vx vy) | _, _ => none)
  | .slice t x lo hi mx => (match evalA ts x, evalO ts lo, evalO ts hi, evalO ts mx with | some v, some l, some h, some m => (match sliceA T S t v l h m with | some r => some [(r, S)] | none => onev S (pureOpA P ts o)) | _, _, _, _ => none)
  | .fieldAddr t x f => (match evalA ts x with | some v => onev S (fieldAddrA T t f v) | none => none)
  | .field t x f => (match evalA ts x with | some v => onev S (fieldA T t f v) | none => none)
  | .indexAddr t x i => (match evalA ts x, evalA ts i with | some v, some j => onev S (indexAddrA T t j v) | _, _ => none)
  | .index t x i => (match evalA ts x, evalA ts i with | some v, some j => onev S (indexA T t j v) | _, _ => none)
  | .lookup t m k ok => (match evalA ts m, evalA ts k with | some vm, some vk => onev S (lookupA P T S t ok vk vm) | _, _ => none)
  | .mapUpdate t m k v => (match evalA ts m, evalA ts k, evalA ts v with | some vm, some vk, some vv => oneu (mapUpdateA P T S t vm vk vv) | _, _, _ => none)
  | .insert t m k v => (match evalA ts m, evalA ts k, evalA ts v with | some vm, some vk, some vv => oneu (mapUpdateA P T S t vm vk vv) | _, _, _ => none)
  | .range t x => (match evalA ts x with | some v => one (rangeA T S t v) | none => none)
  | .next x false => (match evalA ts x with | some v => nextA S v | none => none)
  | .entry x => (match evalA ts x with | some v => onev S (entryA S v) | none => none)
  | .extract x i => (match evalA ts x with | some v => onev S (extractA i v) | none => none)
  | .call { callee := .builtin b, args, argTypes } => builtinA P T ts S o b argTypes.toList args.toList
  | _ => none

theorem DoesO.one {s : Sem Value} {x : Option (Value × St)} {outs : List (Value × St)} (h : Go.Ax.one x = some outs) (hd : ∀ r, x = some r → Does P w0 E S w s r.1 r.2) : ∃ r ∈ outs, DoesO P w0 E S w (do pure (.value (← s))) r.1 r.2 := by
  unfold Go.Ax.one at h
  rw [Option.map_eq_some_iff] at h
  obtain ⟨r, h1, rfl⟩ := h
  exact ⟨r, by simp, (hd r h1).next⟩
theorem DoesO.onev {s : Sem Next} {x : Option Value} {outs : List (Value × St)} (h : Go.Ax.onev S x = some outs) (hd : ∀ r, x = some r → DoesO P w0 E S w s r S) : ∃ r ∈ outs, DoesO P w0 E S w s r.1 r.2 := by
  unfold Go.Ax.onev at h
  rw [Option.map_eq_some_iff] at h
  obtain ⟨r, h1, rfl⟩ := h
  exact ⟨(r, S), by simp, hd r h1⟩
theorem DoesO.oneu {s : Sem Next} {x : Option St} {outs : List (Value × St)} (h : Go.Ax.oneu x = some outs) (hd : ∀ r, x = some r → DoesO P w0 E S w s undef r) : ∃ r ∈ outs, DoesO P w0 E S w s r.1 r.2 := by
  unfold Go.Ax.oneu at h
  rw [Option.map_eq_some_iff] at h
  obtain ⟨r, h1, rfl⟩ := h
  exact ⟨(undef, r), by simp, hd r h1⟩
theorem exec_builtin {o : Oper} {ρ : Operand → Value} {b : Builtin} {args : Array Operand} {argTypes : Array TypeId} (ho : o.op = .call { callee := .builtin b, args, argTypes }) :
    ∃ cs, execOp ρ o = builtin b argTypes o.type cs (args.map ρ) := by
  refine ⟨args.map fun | .const _ => true | _ => false, ?_⟩
  unfold execOp
  rw [ho]
  rfl
end
end Go.Ax
end
/- part AxP -/
section
/- One operation, whichever it is: it does what the table says. -/
namespace Go.Ax
open Go.RowKit

section
variable {P : Program} {T : Tab} (hT : TabOK P T) {w0 : Base} {E : Env} {S : St} {w : World}

include hT in
theorem builtin_ok {ts : List Value} {a : Act} {o : Oper} {b : Builtin} {args : Array Operand} {argTypes : Array TypeId} {outs : List (Value × St)} (ho : o.op = .call { callee := .builtin b, args, argTypes })
    (h : builtinA P T ts S o b argTypes.toList args.toList = some outs) (hS : SR w0 E S w) (ht : VRs E ts a.tmps.toList) : ∃ r ∈ outs, DoesO P w0 E S w (execOp a.eval o) r.1 r.2 := by
  obtain ⟨cs, hx⟩ := exec_builtin (ρ := a.eval) ho
  have h2 : ∀ {x y : Operand}, args.toList = [x, y] → args.map a.eval = #[a.eval x, a.eval y] := by
    intro x y hxy
    apply Array.ext'
    simp [hxy]
  have h1 : ∀ {x : Operand}, args.toList = [x] → args.map a.eval = #[a.eval x] := by
    intro x hxy
    apply Array.ext'
    simp [hxy]
  have t2 : ∀ {x y : TypeId}, argTypes.toList = [x, y] → argTypes = #[x, y] := by
    intro x y hxy
    apply Array.ext'
    simp [hxy]
  have t1 : ∀ {x : TypeId}, argTypes.toList = [x] → argTypes = #[x] := by
    intro x hxy
    apply Array.ext'
    simp [hxy]
  unfold builtinA at h
  split at h
  case h_8 => cases h
  case h_1 b tys args' u1 u2 x y q1 q2 =>
    split at h
    case h_2 => cases h
    case h_1 vx vy e1 e2 =>
      rw [hx, h2 q2, t2 q1]
      exact DoesO.one h fun r hr => does_append hT hr hS (evalA_ok ht e1) (evalA_ok ht e2)
  case h_2 b tys args' u1 u2 x y q1 q2 =>
    split at h
    case h_2 => cases h
    case h_1 vx vy e1 e2 =>
      rw [hx, h2 q2, t2 q1]
      exact DoesO.one h fun r hr => does_copy hT hr hS (evalA_ok ht e1) (evalA_ok ht e2)
  case h_3 b tys args' u1 u2 x y q1 q2 =>
    split at h
    case h_2 => cases h
    case h_1 vx vy e1 e2 =>
      rw [hx, h2 q2, t2 q1]
      exact DoesO.oneu h fun r hr => (does_delete hT hr hS (evalA_ok ht e1) (evalA_ok ht e2)).next
  case h_4 b tys args' u1 x q1 q2 =>
    split at h
    case h_2 => cases h
    case h_1 vx e1 =>
      rw [hx, h1 q2, t1 q1]
      exact DoesO.onev h fun r hr => Does.of hS (does_len hT hr hS (evalA_ok ht e1))
  case h_5 b tys args' u1 x q1 q2 =>
    split at h
    case h_2 => cases h
    case h_1 vx d e1 e2 =>
      rw [hx, h1 q2, t1 q1]
      exact DoesO.oneu h fun r hr => (does_clear hT hr hS (evalA_ok ht e1) (by rw [e2]; rfl)).next
  case h_6 =>
    exact DoesO.onev h fun r hr => does_pure hr hS ht
  case h_7 =>
    exact DoesO.onev h fun r hr => does_pure hr hS ht

include hT in
theorem aop_ok {ts : List Value} {a : Act} {o : Oper} {outs : List (Value × St)} (h : aop P T ts S o = some outs) (hS : SR w0 E S w) (ht : VRs E ts a.tmps.toList) :
    ∃ r ∈ outs, DoesO P w0 E S w (execOp a.eval o) r.1 r.2 := by
  have hev : ∀ {x : Operand} {v : Value}, evalA ts x = some v → VR E v (a.eval x) := fun h => evalA_ok ht h
  have sing : ∀ {v : Value} {S' : St}, DoesO P w0 E S w (execOp a.eval o) v S' → ∃ r ∈ [(v, S')], DoesO P w0 E S w (execOp a.eval o) r.1 r.2 := fun {v S'} h => ⟨(v, S'), by simp, h⟩
  unfold aop at h
  cases ho : o.op with
  | move x =>
    rw [ho] at h
    exact DoesO.onev h fun r hr => DoesO.same hS (by unfold execOp; rw [ho]; rfl) (hev hr)
  | assign x =>
    rw [ho] at h
    exact DoesO.onev h fun r hr => DoesO.same hS (by unfold execOp; rw [ho]; rfl) (hev hr)
  | pick c x y =>
    rw [ho] at h
    simp only at h
    split at h
    case h_2 => cases h
    case h_1 b hc =>
      have hb := (hev hc).scalar_eq rfl
      refine DoesO.onev h fun r hr => ?_
      refine DoesO.same (v' := if b then a.eval x else a.eval y) hS ?_ ?_
      · unfold execOp
        rw [ho]
        simp [hb, asBool]
      · cases b with
        | true => exact hev hr
        | false => exact hev hr
  | alloc t =>
    rw [ho] at h
    have := DoesO.one h fun r hr => does_alloc hT hr hS
    simpa only [execOp, ho] using this
  | box t x =>
    rw [ho] at h
    simp only at h
    split at h
    case h_2 => cases h
    case h_1 v hv =>
      cases h
      have := (does_box (P := P) hS t (hev hv)).next
      exact ⟨boxA S t v, by simp, by simpa only [execOp, ho] using this⟩
  | build t ps =>
    rw [ho] at h
    simp only at h
    split at h
    case h_2 => cases h
    case h_1 vs hv =>
      refine DoesO.onev h fun r hr => ?_
      have := Does.of hS (does_build (w := w) hT hr (partsA_ok ht hv))
      have e : (ps.map fun (i, x) => (i, a.eval x)) = (ps.toList.map fun (i, x) => (i, a.eval x)).toArray := by
        apply Array.ext'; simp
      simp only [execOp, ho]
      rw [e]
      exact this
  | buildSlice t n ps =>
    rw [ho] at h
    simp only at h
    split at h
    case h_2 => cases h
    case h_1 vs hv =>
      have e : (ps.map fun (i, x) => (i, a.eval x)) = (ps.toList.map fun (i, x) => (i, a.eval x)).toArray := by
        apply Array.ext'; simp
      have := DoesO.one h fun r hr => does_buildSlice hT hr hS (partsA_ok ht hv)
      simp only [execOp, ho]
      rw [e]
      exact this
  | load t x =>
    rw [ho] at h
    simp only at h
    split at h
    case h_2 => cases h
    case h_1 v hv =>
      refine DoesO.onev h fun r hr => ?_
      have := Does.of hS (does_load hT hr hS (hev hv))
      simpa only [execOp, ho] using this
  | store t x y =>
    rw [ho] at h
    simp only at h
    split at h
    case h_2 => cases h
    case h_1 va vv e1 e2 =>
      refine DoesO.oneu h fun r hr => ?_
      have := (does_store hT hr hS (hev e2) (hev e1)).next
      simpa only [execOp, ho] using this
  | nilCheck x =>
    rw [ho] at h
    simp only at h
    split at h
    case h_2 => cases h
    case h_1 v hv =>
      split at h
      case h_2 => cases h
      case h_1 v2 hn =>
        cases h
        have : v2 = v := by
          unfold nilCheckA at hn
          split at hn <;> first | (cases hn; rfl) | cases hn
        subst this
        exact sing (does_nilCheck ho rfl hn hS (hev hv))
  | binOp op t x y ty =>
    rw [ho] at h
    exact DoesO.onev h fun r hr => does_bin hT ho hr hS ht
  | unOp op t x =>
    rw [ho] at h
    exact DoesO.onev h fun r hr => does_pure hr hS ht
  | convert s d x =>
    rw [ho] at h
    simp only at h
    split at h
    case h_2 => cases h
    case h_1 v hv =>
      split at h
      case h_1 r hr =>
        cases h
        refine sing ?_
        have := Does.of hS ⟨r, run_conv (w := w) hT hr (hev hv)⟩
        simpa only [execOp, ho] using this
      case h_2 => exact DoesO.onev h fun r hr => does_pure hr hS ht
  | makeInterface t x =>
    rw [ho] at h
    simp only at h
    split at h
    case h_2 => cases h
    case h_1 v d hv hd =>
      split at h
      case isTrue => cases h
      case isFalse hi =>
        cases h
        refine sing (DoesO.same (v' := .iface t (a.eval x)) hS ?_ (.iface t (hev hv)))
        have hm : (Instr.makeInterface t (a.eval x)).run P w = .ok (.iface t (a.eval x)) w := by
          unfold Instr.makeInterface
          simp only [Sem.run_bind, run_und hT hd, Result.andThen_ok]
          cases d <;> first | rfl | (simp [isIface] at hi)
        simp [execOp, ho, hm]
  | makeFunc fn first cap =>
    rw [ho] at h
    simp only at h
    split at h
    case h_2 => cases h
    case h_1 xs ys hx hy =>
      split at h
      case isFalse => cases h
      case isTrue hf =>
        cases h
        refine sing (DoesO.same (v' := .func fn ⟨first.toList.map a.eval⟩ ⟨cap.toList.map a.eval⟩) hS ?_ (.func (FnR.of_ok hf) (evalsA_ok ht hx) (evalsA_ok ht hy)))
        have e1 : first.map a.eval = ⟨first.toList.map a.eval⟩ := by apply Array.ext'; simp
        have e2 : cap.map a.eval = ⟨cap.toList.map a.eval⟩ := by apply Array.ext'; simp
        simp only [execOp, ho, Instr.makeFunc, e1, e2]
        rfl
  | makeMap t r =>
    rw [ho] at h
    cases r with
    | some x => cases h
    | none =>
      cases h
      have := (does_makeMap (P := P) (t := t) hS).next
      exact ⟨makeMapA S, by simp, by simpa only [execOp, ho, Option.map_none] using this⟩
  | makeSlice t x y =>
    rw [ho] at h
    simp only at h
    split at h
    case h_2 => cases h
    case h_1 vx vy e1 e2 =>
      have := DoesO.one h fun r hr => does_makeSlice hT hr hS (hev e1) (hev e2)
      simpa only [execOp, ho] using this
  | slice t x lo hi mx =>
    rw [ho] at h
    simp only at h
    split at h
    case h_2 => cases h
    case h_1 v l hh m e1 e2 e3 e4 =>
      split at h
      case h_1 r hr =>
        cases h
        refine sing ?_
        have := Does.of hS (does_slice hT hr hS (hev e1) (evalO_ok ht e2) (evalO_ok ht e3) (evalO_ok ht e4))
        simpa only [execOp, ho] using this
      case h_2 => exact DoesO.onev h fun r hr => does_pure hr hS ht
  | fieldAddr t x f =>
    rw [ho] at h
    simp only at h
    split at h
    case h_2 => cases h
    case h_1 v hv =>
      refine DoesO.onev h fun r hr => ?_
      have := Does.of hS (does_fieldAddr (w := w) hT hr (hev hv))
      simpa only [execOp, ho] using this
  | field t x f =>
    rw [ho] at h
    simp only at h
    split at h
    case h_2 => cases h
    case h_1 v hv =>
      refine DoesO.onev h fun r hr => ?_
      have := Does.of hS (does_field (w := w) hT hr (hev hv))
      simpa only [execOp, ho] using this
  | indexAddr t x i =>
    rw [ho] at h
    simp only at h
    split at h
    case h_2 => cases h
    case h_1 v j e1 e2 =>
      refine DoesO.onev h fun r hr => ?_
      have := Does.of hS (does_indexAddr (w := w) hT hr (hev e1) (hev e2))
      simpa only [execOp, ho] using this
  | index t x i =>
    rw [ho] at h
    simp only at h
    split at h
    case h_2 => cases h
    case h_1 v j e1 e2 =>
      refine DoesO.onev h fun r hr => ?_
      have := Does.of hS (does_index (w := w) hT hr (hev e1) (hev e2))
      simpa only [execOp, ho] using this
  | lookup t m k ok =>
    rw [ho] at h
    simp only at h
    split at h
    case h_2 => cases h
    case h_1 vm vk e1 e2 =>
      refine DoesO.onev h fun r hr => ?_
      have := Does.of hS (does_lookup hT hr hS (hev e2) (hev e1))
      simpa only [execOp, ho] using this
  | mapUpdate t m k v =>
    rw [ho] at h
    simp only at h
    split at h
    case h_2 => cases h
    case h_1 vm vk vv e1 e2 e3 =>
      refine DoesO.oneu h fun r hr => ?_
      have := (does_mapUpdate hT hr hS (hev e1) (hev e2) (hev e3)).next
      simpa only [execOp, ho] using this
  | insert t m k v =>
    rw [ho] at h
    simp only at h
    split at h
    case h_2 => cases h
    case h_1 vm vk vv e1 e2 e3 =>
      refine DoesO.oneu h fun r hr => ?_
      have := (does_mapUpdate hT hr hS (hev e1) (hev e2) (hev e3)).next
      simpa only [execOp, ho] using this
  | range t x =>
    rw [ho] at h
    simp only at h
    split at h
    case h_2 => cases h
    case h_1 v hv =>
      have := DoesO.one h fun r hr => does_range hT hr hS (hev hv)
      simpa only [execOp, ho] using this
  | next x isString =>
    rw [ho] at h
    cases isString with
    | true => cases h
    | false =>
      simp only at h
      split at h
      case h_2 => cases h
      case h_1 v hv =>
        obtain ⟨r, hr, hd⟩ := does_next (P := P) (ty := o.type) h hS (hev hv)
        refine ⟨r, hr, ?_⟩
        simpa only [execOp, ho] using hd.next
  | entry x =>
    rw [ho] at h
    simp only at h
    split at h
    case h_2 => cases h
    case h_1 v hv =>
      refine DoesO.onev h fun r hr => ?_
      have := Does.of hS (run_entry (P := P) (w := w) hr hS (hev hv))
      simpa only [execOp, ho] using this
  | extract x i =>
    rw [ho] at h
    simp only at h
    split at h
    case h_2 => cases h
    case h_1 v hv =>
      refine DoesO.onev h fun r hr => ?_
      have := Does.of hS (run_extract (P := P) (w := w) hr (hev hv))
      simpa only [execOp, ho] using this
  | call c =>
    rw [ho] at h
    obtain ⟨callee, args, argTypes⟩ := c
    cases callee with
    | value f => cases h
    | invoke r m => cases h
    | builtin b => exact builtin_ok hT ho h hS ht
  | _ => rw [ho] at h; cases h
end
end Go.Ax
end
/- part AxQ -/
section
/- Calls, rounds, code: the abstract run, and one operation of it in the walk's terms. -/
namespace Go.Ax
open Go.RowKit

inductive AExit where
  | normal
  | exit (id : Nat)
  | ret
noncomputable def AExit.to : AExit → Exit
  | .normal => .normal
  | .exit id => .exit id
  | .ret => .ret
structure Res where
  e : AExit
  ts : List Value
  ds : List Nat
  S : St
structure Fns where
  call : FuncId → List Value → St → Option (List (Value × Option St))
  code : Option Nat → Code → List Value → List Nat → St → Option (List Res)

noncomputable def allL {α β : Type} (f : α → Option (List β)) : List α → Option (List β)
  | [] => some []
  | a :: l => match f a, allL f l with
    | some r, some s => some (r ++ s)
    | _, _ => none
noncomputable def bindL {α β : Type} (x : Option (List α)) (f : α → Option (List β)) : Option (List β) :=
  match x with
  | none => none
  | some l => allL f l
theorem allL_mem {α β : Type} {f : α → Option (List β)} : ∀ {l : List α} {outs : List β}, allL f l = some outs → ∀ a ∈ l, ∃ r, f a = some r ∧ ∀ x ∈ r, x ∈ outs := by
  intro l
  induction l with
  | nil => intro outs _ a ha; simp at ha
  | cons b l ih =>
    intro outs h a ha
    simp only [allL] at h
    split at h
    · rename_i r s hr hs
      cases h
      rcases List.mem_cons.1 ha with rfl | ha
      · exact ⟨r, hr, fun x hx => List.mem_append_left _ hx⟩
      · obtain ⟨r', h1, h2⟩ := ih hs a ha
        exact ⟨r', h1, fun x hx => List.mem_append_right _ (h2 x hx)⟩
    · cases h
theorem bindL_mem {α β : Type} {x : Option (List α)} {f : α → Option (List β)} {outs : List β} (h : bindL x f = some outs) : ∃ l, x = some l ∧ ∀ a ∈ l, ∃ r, f a = some r ∧ ∀ y ∈ r, y ∈ outs := by
  unfold bindL at h
  split at h
  · cases h
  · rename_i l; exact ⟨l, rfl, allL_mem h⟩

noncomputable def effB : Builtin → Bool
  | .len => false
  | .min => false
  | .max => false
  | _ => true
noncomputable def eff : Op → Bool
  | .alloc _ => true
  | .box _ _ => true
  | .buildSlice _ _ _ => true
  | .store _ _ _ => true
  | .makeMap _ _ => true
  | .makeSlice _ _ _ => true
  | .mapUpdate _ _ _ _ => true
  | .insert _ _ _ _ => true
  | .range _ _ => true
  | .next _ _ => true
  | .call { callee := .builtin b, .. } => effB b
  | _ => false

noncomputable def zipSet : List Tmp → List Value → List Value → List Value
  | t :: ps, v :: vs, ts => zipSet ps vs (lset ts t v)
  | _, _, ts => ts

/-- a round of a loop over a function -/
noncomputable def yieldA (G : Fns) (l : Nat) (args : List Value) (S : St) : Option (List (Value × Option St)) :=
  match S.get l with
  | some (.loop .ready _ tm ps asg bd _) =>
    if args.length = ps.toList.length then
      bindL (G.code (some l) asg (zipSet ps.toList args tm) [] S) fun r =>
        match r.e, r.S.get l with
        | .normal, some (.loop .ready pd2 tm2 ps2 as2 bd2 df2) =>
          bindL (G.code (some l) bd r.ts r.ds (r.S.set l (.loop .busy pd2 tm2 ps2 as2 bd2 df2))) fun q =>
            match q.S.get l with
            | some (.loop _ _ tm3 ps3 as3 bd3 df3) =>
              (match q.e with
                | .normal => some [(.bool true, some (q.S.set l (.loop .ready none tm3 ps3 as3 bd3 df3)))]
                | .ret => some [(.bool false, some (q.S.set l (.loop .done (some .ret) tm3 ps3 as3 bd3 df3)))]
                | .exit id => some [(.bool false, some (q.S.set l (.loop .done (some (.exit id)) tm3 ps3 as3 bd3 df3)))])
            | _ => none
        | _, _ => none
    else none
  | _ => none

noncomputable def stepOp (G : Fns) (P : Program) (T : Tab) (ts : List Value) (S : St) (o : Oper) : Option (List (Value × Option St)) :=
  match o.op with
  | .call { callee := .value f, args, .. } =>
    (match evalA ts f, evalsA ts args.toList with
    | some (.func (.func g) xs ys), some vs => G.call g (xs.toList ++ vs ++ ys.toList) S
    | some (.func (.yield l) xs _), some vs => yieldA G l (xs.toList ++ vs) S
    | _, _ => none)
  | op => if eff op then (aop P T ts S o).map (·.map fun r => (r.1, some r.2)) else (aop P T ts S o).map (·.map fun r => (r.1, none))

noncomputable def fence (ro : Option Nat) : Fence := { Fence.wide with round := ro }
inductive RoR (E : Env) : Option Nat → Option Nat → Prop
  | none : RoR E none none
  | some {l l' κ : Nat} (h : E l = some (l', κ)) : RoR E (some l) (some l')
theorem RoR.mono {E E' : Env} (hE : E.le E') {a b : Option Nat} (h : RoR E a b) : RoR E' a b := by
  cases h with
  | none => exact .none
  | some h => exact .some (hE _ _ h)
inductive DsR (E : Env) : List Nat → List Deferred → Prop
  | nil : DsR E [] []
  | cons {d b κ : Nat} {ds : List Nat} {ds' : List Deferred} (h : E d = some (b, κ)) (h1 : DsR E ds ds') : DsR E (d :: ds) ({ target := .collected b, args := #[] } :: ds')
theorem DsR.mono {E E' : Env} (hE : E.le E') {a : List Nat} {b : List Deferred} (h : DsR E a b) : DsR E' a b := by
  induction h with
  | nil => exact .nil
  | cons h _ ih => exact .cons (hE _ _ h) ih

structure OK (P : Program) (G : Fns) : Prop where
  call : ∀ {f : FuncId} {args : List Value} {S : St} {outs : List (Value × Option St)}, G.call f args S = some outs →
    (∃ fn c, P.funcs[f]? = some fn ∧ (fn.name == "runtime.NumGoroutine") = false ∧ fn.body = some c) ∧
    ∀ {w0 : Base} {E : Env} {w : World} {args' : List Value} {n : Nat} {R : Ending → World → Prop}, SR w0 E S w → VRs E args args' →
      (∀ r ∈ outs, ∀ E' v' w', E.le E' → SR w0 E' (r.2.getD S) w' → VR E' r.1 v' → Keeps S (r.2.getD S) → w.heap.size ≤ w'.heap.size → R (.returned v') w') →
      CallsIn Fence.wide n P f args'.toArray w R
  code : ∀ {ro : Option Nat} {c : Code} {ts : List Value} {ds : List Nat} {S : St} {outs : List Res}, G.code ro c ts ds S = some outs →
    ∀ {w0 : Base} {E : Env} {w : World} {a : Act} {ro' : Option Nat} {n : Nat} {Q : Exit → Act → World → Prop}, RoR E ro ro' → SR w0 E S w → VRs E ts a.tmps.toList → DsR E ds a.defers →
      (∀ r ∈ outs, ∀ E' a' w', E.le E' → SR w0 E' r.S w' → VRs E' r.ts a'.tmps.toList → DsR E' r.ds a'.defers → Keeps S r.S → w.heap.size ≤ w'.heap.size → Q r.e.to a' w') →
      c.wpIn (fence ro') n P Q a w

section
variable {P : Program} {T : Tab} (hT : TabOK P T) {G : Fns} (hG : OK P G) {w0 : Base} {E : Env} {S : St} {w : World}

theorem put_rel {ts : List Value} {a : Act} (ht : VRs E ts a.tmps.toList) (d : Option Tmp) {v v' : Value} (hv : VR E v v') :
    VRs E (match d with | some t => lset ts t v | none => ts) (a.put d v').tmps.toList := by
  cases d with
  | none => exact ht
  | some t => simp only [Act.put, Array.toList_setIfInBounds, lset_eq]; exact ht.set t hv
theorem zipSet_rel : ∀ {ps : List Tmp} {vs vs' : List Value} (_ : VRs E vs vs') {ts : List Value} {ts' : Array Value} (_ : VRs E ts ts'.toList),
    VRs E (zipSet ps vs ts) (((ps.zip vs').foldl (fun tmps (x : Tmp × Value) => tmps.setIfInBounds x.1 x.2) ts')).toList := by
  intro ps
  induction ps with
  | nil => intro vs vs' _ ts ts' ht; cases vs <;> exact ht
  | cons t ps ih =>
    intro vs vs' hv ts ts' ht
    cases hv with
    | nil => exact ht
    | cons h h1 =>
      simp only [zipSet, List.zip_cons_cons, List.foldl_cons]
      exact ih h1 (by simp only [Array.toList_setIfInBounds, lset_eq]; exact ht.set t h)

theorem SR.loop (hS : SR w0 E S w) {l : Nat} {st : LoopState} {pd : Option Code} {tm : List Value} {ps : Array Tmp} {asg bd : Code} {df : Nat} (h : S.get l = some (.loop st pd tm ps asg bd df)) {b κ : Nat} (hb : E l = some (b, κ)) :
    ∃ L : Loop, w.heap[b]? = some (.loop L) ∧ L.state = st ∧ L.pending = pd ∧ VRs E tm L.tmps.toList ∧ L.params = ps ∧ L.assign = asg ∧ L.body = bd ∧ ∃ dκ, E df = some (L.defers, dκ) := by
  obtain ⟨b', κ', L, db, dκ, h1, h2, h3, h4, h5, h6, h7, h8, h9, h10⟩ := hS.at h hb
  rw [hb] at h1
  cases h1
  subst h10
  exact ⟨L, h3, h4, h5, h6, h7, h8, h9, dκ, h2⟩
theorem run_getLoop {b : Nat} {L : Loop} (h : w.heap[b]? = some (.loop L)) : (Instr.getLoop b).run P w = .ok L w := by
  unfold Instr.getLoop
  simp [run_getObj (P := P) h (by intro c t f h; cases h)]
theorem put_loop (hS : SR w0 E S w) {l : Nat} {st st' : LoopState} {pd pd' : Option Code} {tm : List Value} {ps : Array Tmp} {asg bd : Code} {df : Nat} (h : S.get l = some (.loop st pd tm ps asg bd df)) {b κ : Nat} (hb : E l = some (b, κ)) {L L' : Loop} (hL : w.heap[b]? = some (.loop L))
    (hs : L'.state = st') (hp : L'.pending = pd') (h1 : L'.tmps = L.tmps) (h2 : L'.params = L.params) (h3 : L'.assign = L.assign) (h4 : L'.body = L.body) (h5 : L'.defers = L.defers) :
    SR w0 E (S.set l (.loop st' pd' tm ps asg bd df)) (putB w b (.loop L')) := by
  obtain ⟨L2, g1, g2, g3, g4, g5, g6, g7, dκ, g8⟩ := hS.loop h hb
  rw [hL] at g1
  cases g1
  refine hS.put h rfl hb _ _ ?_
  intro w' hw'
  exact ⟨b, κ, L', L'.defers, dκ, hb, by rw [h5]; exact g8, hw', hs, hp, by rw [h1]; exact g4, by rw [h2]; exact g5, by rw [h3]; exact g6, by rw [h4]; exact g7, rfl⟩

include hG in
/-- a round -/
theorem yield_ok {l : Nat} {args args' : List Value} {outs : List (Value × Option St)} (h : yieldA G l args S = some outs) (hS : SR w0 E S w) (hv : VRs E args args') {l' κ : Nat} (hl : E l = some (l', κ)) {ro' : Option Nat} {n : Nat} {R : Ending → World → Prop}
    (hR : ∀ r ∈ outs, ∀ E' v' w', E.le E' → SR w0 E' (r.2.getD S) w' → VR E' r.1 v' → Keeps S (r.2.getD S) → w.heap.size ≤ w'.heap.size → R (.returned v') w') :
    ∃ f tmps assign body, (Instr.yield l' args'.toArray).run P w = .ok (.round l' f tmps assign body) w ∧ RoundIn (fence ro') n P l' f tmps assign body w R := by
  unfold yieldA at h
  split at h
  case h_2 => cases h
  case h_1 pd tm ps asg bd df hget =>
    split at h
    case isFalse => cases h
    case isTrue hlen =>
      obtain ⟨L, g1, g2, g3, g4, g5, g6, g7, dκ, g8⟩ := hS.loop hget hl
      have hsz : ¬ (args'.toArray.size ≠ L.params.size) := by
        have := hv.length
        rw [g5]
        simp only [List.size_toArray, ne_eq, Decidable.not_not]
        rw [← this, hlen]
        simp
      refine ⟨L.fn, (L.params.zip args'.toArray).foldl (fun tmps (t, a) => tmps.setIfInBounds t a) L.tmps, L.assign, L.body, ?_, ?_⟩
      · unfold Instr.yield
        simp only [Sem.run_bind, run_getLoop g1, Result.andThen_ok]
        rw [if_neg hsz]
        rfl
      · refine roundIn_of_wpIn trivial ?_
        obtain ⟨L1, hL1, hall⟩ := bindL_mem h
        have htm : VRs E (zipSet ps.toList args tm) (((L.params.zip args'.toArray).foldl (fun tmps (t, a) => tmps.setIfInBounds t a) L.tmps)).toList := by
          have := zipSet_rel (ps := ps.toList) hv g4
          have e : ((L.params.zip args'.toArray).foldl (fun tmps (t, a) => tmps.setIfInBounds t a) L.tmps) = ((ps.toList.zip args').foldl (fun tmps (x : Tmp × Value) => tmps.setIfInBounds x.1 x.2) L.tmps) := by
            rw [g5, ← Array.foldl_toList]
            simp
          rw [e]
          exact this
        rw [g6]
        refine hG.code (ro' := some l') hL1 (.some hl) hS htm .nil ?_
        intro r hr E1 a1 w1 hE1 hS1 ht1 hd1 hk1 hz1
        obtain ⟨outs2, hr2, hsub⟩ := hall r hr
        split at hr2
        case h_2 => cases hr2
        case h_1 pd2 tm2 ps2 as2 bd2 df2 he hget2 =>
          rw [he]
          obtain ⟨L3, k1, k2, k3, k4, k5, k6, k7, dκ3, k8⟩ := hS1.loop hget2 (hE1 _ _ hl)
          refine ⟨putB w1 l' (.loop { L3 with state := .busy }), ?_, ?_⟩
          · unfold Instr.beginRound
            simp only [Sem.run_bind, run_getLoop k1, Result.andThen_ok]
            rw [run_setObj k1 (by intro c t f h; cases h)]
            simp [k2]
          · obtain ⟨L4, hL4, hall4⟩ := bindL_mem hr2
            have hS2 := put_loop (st' := .busy) (pd' := pd2) hS1 hget2 (hE1 _ _ hl) k1 (L' := { L3 with state := .busy }) rfl k3 rfl rfl rfl rfl rfl
            rw [g7]
            refine hG.code (ro' := some l') hL4 (.some (hE1 _ _ hl)) hS2 ht1 hd1 ?_
            intro q hq E3 a3 w3 hE3 hS3 ht3 hd3 hk3 hz3
            obtain ⟨outs5, hr5, hsub5⟩ := hall4 q hq
            rw [putB_size] at hz3
            split at hr5
            case h_2 => cases hr5
            case h_1 st3 pd3 tm3 ps3 as3 bd3 df3 hget3 =>
              have hl3 := hE3 _ _ (hE1 _ _ hl)
              obtain ⟨L6, m1, m2, m3, m4, m5, m6, m7, dκ6, m8⟩ := hS3.loop hget3 hl3
              have hkeep : ∀ o, Keeps S (q.S.set l o) := fun o => ((hk1.trans (Keeps.set (St.get_lt hget2) _)).trans hk3).trans (Keeps.set (St.get_lt hget3) o)
              have hend : ∀ (jump : Option Code), (Instr.endRound l' jump).run P w3 = .ok (.bool jump.isNone) (putB w3 l' (.loop { L6 with state := if jump.isNone then .ready else .done, pending := jump })) := by
                intro jump
                unfold Instr.endRound
                simp only [Sem.run_bind, run_getLoop m1, Result.andThen_ok]
                rw [run_setObj m1 (by intro c t f h; cases h)]
                simp
              have hput : ∀ (jump : Option Code), SR w0 E3 (q.S.set l (.loop (if jump.isNone then .ready else .done) jump tm3 ps3 as3 bd3 df3)) (putB w3 l' (.loop { L6 with state := if jump.isNone then .ready else .done, pending := jump })) :=
                fun jump => put_loop hS3 hget3 hl3 m1 rfl rfl rfl rfl rfl rfl rfl
              cases hqe : q.e with
              | normal =>
                rw [hqe] at hr5
                cases hr5
                refine ⟨_, _, hend none, hR (.bool true, some (q.S.set l (.loop .ready none tm3 ps3 as3 bd3 df3))) (hsub _ (hsub5 _ (by simp))) E3 _ _ (hE1.trans hE3) (hput none) (.sc rfl) (hkeep _) (by rw [putB_size]; omega)⟩
              | ret =>
                rw [hqe] at hr5
                cases hr5
                refine ⟨_, _, hend (some .ret), hR (.bool false, some (q.S.set l (.loop .done (some .ret) tm3 ps3 as3 bd3 df3))) (hsub _ (hsub5 _ (by simp))) E3 _ _ (hE1.trans hE3) (hput (some .ret)) (.sc rfl) (hkeep _) (by rw [putB_size]; omega)⟩
              | exit id =>
                rw [hqe] at hr5
                cases hr5
                refine ⟨_, _, hend (some (.exit id)), hR (.bool false, some (q.S.set l (.loop .done (some (.exit id)) tm3 ps3 as3 bd3 df3))) (hsub _ (hsub5 _ (by simp))) E3 _ _ (hE1.trans hE3) (hput (some (.exit id))) (.sc rfl) (hkeep _) (by rw [putB_size]; omega)⟩
end
end Go.Ax
end
/- part AxR -/
section
/- One operation of the abstract run, in the walk's terms; regions in the text's order. -/
namespace Go.Ax
open Go.RowKit

section
variable {P : Program} {T : Tab} (hT : TabOK P T) {G : Fns} (hG : OK P G) {w0 : Base} {E : Env} {S : St} {w : World}

/-- an operation that is no effect hands the store back -/
theorem aop_same {ts : List Value} {o : Oper} {outs : List (Value × St)} (he : eff o.op = false) (h : aop P T ts S o = some outs) : ∀ r ∈ outs, r.2 = S := by
  have hv : ∀ {x : Option Value}, onev S x = some outs → ∀ r ∈ outs, r.2 = S := by
    intro x hx r hr
    unfold onev at hx
    rw [Option.map_eq_some_iff] at hx
    obtain ⟨v, _, rfl⟩ := hx
    simp only [List.mem_singleton] at hr
    rw [hr]
  have hs : ∀ {v : Value}, some [(v, S)] = some outs → ∀ r ∈ outs, r.2 = S := by
    intro v hx r hr
    cases hx
    simp only [List.mem_singleton] at hr
    rw [hr]
  unfold aop at h
  cases ho : o.op with
  | call c =>
    obtain ⟨callee, args, argTypes⟩ := c
    rw [ho] at h he
    cases callee with
    | value f => cases h
    | invoke r m => cases h
    | builtin b =>
      simp only at h
      unfold builtinA at h
      simp only [eff] at he
      split at h
      all_goals first | (simp [effB] at he; done) | skip
      · split at h
        · exact hv h
        · cases h
      · exact hv h
      · exact hv h
      · cases h
  | move x => rw [ho] at h; exact hv h
  | assign x => rw [ho] at h; exact hv h
  | pick c x y => rw [ho] at h; simp only at h; split at h; exact hv h; cases h
  | build t ps => rw [ho] at h; simp only at h; split at h; exact hv h; cases h
  | load t x => rw [ho] at h; simp only at h; split at h; exact hv h; cases h
  | nilCheck x =>
    rw [ho] at h; simp only at h; split at h
    · split at h
      · exact hs h
      · cases h
    · cases h
  | binOp op t x y ty => rw [ho] at h; exact hv h
  | unOp op t x => rw [ho] at h; exact hv h
  | convert s d x =>
    rw [ho] at h; simp only at h; split at h
    · split at h
      · exact hs h
      · exact hv h
    · cases h
  | makeInterface t x =>
    rw [ho] at h; simp only at h; split at h
    · split at h
      · cases h
      · exact hs h
    · cases h
  | makeFunc fn xs ys =>
    rw [ho] at h; simp only at h; split at h
    · split at h
      · exact hs h
      · cases h
    · cases h
  | slice t x lo hi mx =>
    rw [ho] at h; simp only at h; split at h
    · split at h
      · exact hs h
      · exact hv h
    · cases h
  | fieldAddr t x f => rw [ho] at h; simp only at h; split at h; exact hv h; cases h
  | field t x f => rw [ho] at h; simp only at h; split at h; exact hv h; cases h
  | indexAddr t x f => rw [ho] at h; simp only at h; split at h; exact hv h; cases h
  | index t x f => rw [ho] at h; simp only at h; split at h; exact hv h; cases h
  | lookup t m k ok => rw [ho] at h; simp only at h; split at h; exact hv h; cases h
  | entry x => rw [ho] at h; simp only at h; split at h; exact hv h; cases h
  | extract x i => rw [ho] at h; simp only at h; split at h; exact hv h; cases h
  | _ => rw [ho] at h he; first | (simp [eff] at he; done) | cases h

theorem about_trivial {ro' : Option Nat} {o : Oper} {a : Act} : ∀ f, o.about P w a.eval = some f → (fence ro').fn f := fun _ _ => trivial
theorem run_callFunc {f : FuncId} {fn : Func} {c : Code} (h1 : P.funcs[f]? = some fn) (h2 : (fn.name == "runtime.NumGoroutine") = false) (h3 : fn.body = some c) (args : Array Value) : (callFunc f args).run P w = .ok (.enter f args) w := by
  unfold callFunc
  simp only [Sem.run_bind, run_program, Result.andThen_ok, h1, h2, h3]
  simp

include hT hG in
theorem step_ok {ts : List Value} {a : Act} {o : Oper} {outs : List (Value × Option St)} {ro' : Option Nat} {n : Nat} {K : Act → World → Prop} {Q : Exit → Act → World → Prop}
    (h : stepOp G P T ts S o = some outs) (hS : SR w0 E S w) (ht : VRs E ts a.tmps.toList)
    (hK : ∀ r ∈ outs, ∀ E' v' w', E.le E' → SR w0 E' (r.2.getD S) w' → VR E' r.1 v' → Keeps S (r.2.getD S) → w.heap.size ≤ w'.heap.size → K (a.put o.dst v') w') :
    o.wpIn (fence ro') n P a w K Q := by
  refine ⟨about_trivial, ?_⟩
  have hdepth : ((fence ro').depth.isSome = true → 1 ≤ n) := fun h => by simp [fence, Fence.wide] at h
  unfold stepOp at h
  split at h
  case h_1 f args argTypes ho =>
    have hsem : o.semAt (fence ro').round a.eval = execOp a.eval o := Oper.semAt_eq _ _ _ (by intro c; rw [ho]; simp)
    have hargs : args.map a.eval = (args.toList.map a.eval).toArray := by apply Array.ext'; simp
    split at h
    case h_1 g xs ys vs hf hvs =>
      obtain ⟨⟨fn, c, k1, k2, k3⟩, hcall⟩ := hG.call h
      have hfv := evalA_ok ht hf
      generalize hq : a.eval f = fv at hfv
      cases hfv with
      | sc hs => simp [scalar] at hs
      | func hfn hx hy =>
        rename_i xs xs' ys ys'
        cases hfn
        have hrun : (execOp a.eval o).run P w = .ok (.enter g (xs' ++ args.toList.map a.eval ++ ys').toArray) w := by
          unfold execOp
          rw [ho]
          simp only [resolve, hq, hargs, Deferred.ofValue, pure_bind, invoke]
          have := run_callFunc (P := P) (w := w) k1 k2 k3 (xs' ++ args.toList.map a.eval ++ ys').toArray
          simpa using this
        rw [hsem, hrun]
        refine ⟨hdepth, ?_⟩
        have := hcall (w0 := w0) (E := E) (w := w) (n := n - 1) (R := fun
          | .returned v, w'' => K (a.put o.dst v) w''
          | .panicked chain, w'' => Q (.panic chain) a w''
          | .outgrown, _ => LetsOut Q) hS ((hx.append (evalsA_ok ht hvs)).append hy) hK
        cases ro' with
        | none => exact this
        | some l => exact CallsIn.inRound l this
    case h_2 l xs ys vs hf hvs =>
      have hfv := evalA_ok ht hf
      generalize hq : a.eval f = fv at hfv
      cases hfv with
      | sc hs => simp [scalar] at hs
      | func hfn hx hy =>
        rename_i xs xs' ys ys'
        cases hfn with
        | yield hl =>
          rename_i l' κ
          obtain ⟨f', tmps, assign, body, h1, h2⟩ := yield_ok (P := P) (n := n - 1) (ro' := ro') hG h hS (hx.append (evalsA_ok ht hvs)) hl (R := fun
            | .returned v, w'' => K (a.put o.dst v) w''
            | .panicked chain, w'' => Q (.panic chain) a w''
            | .outgrown, _ => LetsOut Q) hK
          have hrun : (execOp a.eval o).run P w = .ok (.round l' f' tmps assign body) w := by
            unfold execOp
            rw [ho]
            simp only [resolve, hq, hargs, Deferred.ofValue, pure_bind, invoke]
            simpa using h1
          rw [hsem, hrun]
          exact ⟨hdepth, h2⟩
    case h_3 => cases h
  case h_2 op hop =>
    have hx : ∃ outs2, aop P T ts S o = some outs2 ∧ ∀ r2 ∈ outs2, ∃ r ∈ outs, r.1 = r2.1 ∧ r.2.getD S = r2.2 := by
      split at h
      case isTrue he =>
        rw [Option.map_eq_some_iff] at h
        obtain ⟨outs2, h1, rfl⟩ := h
        exact ⟨outs2, h1, fun r2 hr2 => ⟨(r2.1, some r2.2), List.mem_map.2 ⟨r2, hr2, rfl⟩, rfl, rfl⟩⟩
      case isFalse he =>
        rw [Option.map_eq_some_iff] at h
        obtain ⟨outs2, h1, rfl⟩ := h
        exact ⟨outs2, h1, fun r2 hr2 => ⟨(r2.1, none), List.mem_map.2 ⟨r2, hr2, rfl⟩, rfl, (aop_same (by simpa using he) h1 r2 hr2).symm⟩⟩
    obtain ⟨outs2, h1, h2⟩ := hx
    have hnd : ∀ c, o.op ≠ .defer c := by
      intro c hc
      unfold aop at h1
      rw [hc] at h1
      cases h1
    have hsem : o.semAt (fence ro').round a.eval = execOp a.eval o := Oper.semAt_eq _ _ _ hnd
    obtain ⟨r2, hr2, x, v', w', E', g1, g2, g3, g4, g5, g6, g7⟩ := aop_ok hT h1 hS ht
    obtain ⟨r, hr, e1, e2⟩ := h2 r2 hr2
    rw [hsem, g1]
    have := hK r hr E' v' w' g3 (by rw [e2]; exact g4) (by rw [e1]; exact g5) (by rw [e2]; exact g6) g7
    rcases g2 with rfl | ⟨rfl, rfl⟩
    · exact this
    · exact this

noncomputable def yieldedA (ops : Array Oper) (ts : List Value) (j : Nat) : Option Bool :=
  match ((ops[j]?).bind (·.dst)).bind (lget ts) with
  | some (.bool b) => some b
  | _ => none
theorem yielded_rel {ops : Array Oper} {ts : List Value} {a : Act} (ht : VRs E ts a.tmps.toList) (j : Nat) : yielded ops a.tmps j = yieldedA ops ts j := by
  unfold yielded yieldedA
  cases hd : (ops[j]?).bind (·.dst) with
  | none => rfl
  | some d =>
    simp only [Option.bind_some, lget_eq]
    cases hx : ts[d]? with
    | none =>
      have : a.tmps[d]? = none := by
        have hl := ht.length
        rw [Array.getElem?_eq_none]
        have := List.getElem?_eq_none_iff.1 hx
        simp only [Array.length_toList] at hl
        omega
      rw [this]
    | some v =>
      obtain ⟨v', h1, h2⟩ := ht.get hx
      have h1' : a.tmps[d]? = some v' := by simpa using h1
      rw [h1']
      cases h2 <;> first | rfl | (cases v <;> rfl)
noncomputable def putA (ts : List Value) (d : Option Tmp) (v : Value) : List Value :=
  match d with
  | some t => lset ts t v
  | none => ts

noncomputable def execOps (G : Fns) (P : Program) (T : Tab) (ops : Array Oper) : List Nat → List Value → St → Option (List (List Value × St))
  | [], ts, S => some [(ts, S)]
  | i :: rest, ts, S =>
    match ops[i]? with
    | none => execOps G P T ops rest ts S
    | some o =>
      if Region.wanted o (yieldedA ops ts) then bindL (stepOp G P T ts S o) fun r => execOps G P T ops rest (putA ts o.dst r.1) (r.2.getD S)
      else execOps G P T ops rest (putA ts o.dst undef) S

include hT hG in
theorem ops_ok {ops : Array Oper} {ro' : Option Nat} {n : Nat} {Q : Exit → Act → World → Prop} : ∀ (l : List Nat) {ts : List Value} {S : St} {E : Env} {w : World} {a : Act} {outs : List (List Value × St)},
    execOps G P T ops l ts S = some outs → SR w0 E S w → VRs E ts a.tmps.toList →
    (∀ r ∈ outs, ∀ E' a' w', E.le E' → SR w0 E' r.2 w' → VRs E' r.1 a'.tmps.toList → a'.defers = a.defers → Keeps S r.2 → w.heap.size ≤ w'.heap.size → Q .normal a' w') →
    wpOpsIn (fence ro') n P ops Q l a w := by
  intro l
  induction l with
  | nil =>
    intro ts S E w a outs h hS ht hQ
    simp only [execOps] at h
    cases h
    exact hQ (ts, S) (by simp) E a w (.refl E) hS ht rfl (.refl S) (Nat.le_refl _)
  | cons i rest ih =>
    intro ts S E w a outs h hS ht hQ
    simp only [execOps] at h
    rw [wpOpsIn_cons]
    unfold wpOpIn
    cases ho : ops[i]? with
    | none =>
      rw [ho] at h
      exact ih h hS ht hQ
    | some o =>
      rw [ho] at h
      simp only at h ⊢
      have hw : Region.wanted o (yielded ops a.tmps) = Region.wanted o (yieldedA ops ts) := by
        have : yielded ops a.tmps = yieldedA ops ts := funext fun j => yielded_rel ht j
        rw [this]
      rw [hw]
      split at h
      case isTrue hwt =>
        rw [if_pos hwt]
        obtain ⟨l1, hl1, hall⟩ := bindL_mem h
        refine step_ok hT hG hl1 hS ht ?_
        intro r hr E' v' w' hE hS' hv hk hz
        obtain ⟨outs2, hr2, hsub⟩ := hall r hr
        refine ih hr2 hS' (put_rel (ht.mono hE) o.dst hv) ?_
        intro q hq E2 a2 w2 hE2 hS2 ht2 hd2 hk2 hz2
        refine hQ q (hsub q hq) E2 a2 w2 (hE.trans hE2) hS2 ht2 ?_ (hk.trans hk2) (Nat.le_trans hz hz2)
        rw [hd2]
        cases o.dst <;> rfl
      case isFalse hwt =>
        rw [if_neg hwt]
        refine ⟨about_trivial, ih h hS (put_rel ht o.dst (.tuple .nil)) ?_⟩
        intro q hq E2 a2 w2 hE2 hS2 ht2 hd2 hk2 hz2
        refine hQ q hq E2 a2 w2 hE2 hS2 ht2 ?_ hk2 hz2
        rw [hd2]
        cases o.dst <;> rfl
end
end Go.Ax
end
/- part AxS -/
section
/- An operation looks at its own temporaries alone. -/
namespace Go.Ax
open Go.RowKit

section
variable {P : Program} {T : Tab} {G : Fns} {S : St} {ts ts' : List Value}

theorem evalsA_congr : ∀ {xs : List Operand}, (∀ x ∈ xs, evalA ts x = evalA ts' x) → evalsA ts xs = evalsA ts' xs := by
  intro xs
  induction xs with
  | nil => intro _; rfl
  | cons x xs ih =>
    intro h
    simp only [evalsA]
    rw [h x (by simp), ih (fun y hy => h y (by simp [hy]))]
theorem partsA_congr : ∀ {xs : List (Nat × Operand)}, (∀ x ∈ xs.map (·.2), evalA ts x = evalA ts' x) → partsA ts xs = partsA ts' xs := by
  intro xs
  induction xs with
  | nil => intro _; rfl
  | cons x xs ih =>
    obtain ⟨i, x⟩ := x
    intro h
    simp only [partsA]
    rw [h x (by simp), ih (fun y hy => h y (by simp only [List.map_cons, List.mem_cons]; exact .inr hy))]
theorem evalO_congr {x : Option Operand} (h : ∀ y ∈ x.toArray, evalA ts y = evalA ts' y) : evalO ts x = evalO ts' x := by
  cases x with
  | none => rfl
  | some y => simp only [evalO]; rw [h y (by simp)]
theorem pureOpA_congr {o : Oper} (h : ∀ x ∈ o.op.operands, evalA ts x = evalA ts' x) : pureOpA P ts o = pureOpA P ts' o := by
  unfold pureOpA
  have h1 : plainOps ts o = plainOps ts' o := by
    unfold plainOps
    rw [Bool.eq_iff_iff]
    simp only [List.all_eq_true]
    constructor
    · intro hh x hx
      have := hh x hx
      rw [h x (by simpa using hx)] at this
      exact this
    · intro hh x hx
      have := hh x hx
      rw [← h x (by simpa using hx)] at this
      exact this
  rw [h1]
  by_cases hs : isSelect o.op = true
  · rw [hs]; simp
  · have h2 : execOp (evalD ts) o = execOp (evalD ts') o := by
      refine execOp_congr o (fun cs b e => by rw [e] at hs; simp [isSelect] at hs) fun x hx => ?_
      unfold evalD
      rw [h x hx]
    rw [h2]
theorem aop_congr {o : Oper} (h : ∀ x ∈ o.op.operands, evalA ts x = evalA ts' x) : aop P T ts S o = aop P T ts' S o := by
  have hp := pureOpA_congr (P := P) h
  unfold aop
  cases ho : o.op with
  | call c =>
    obtain ⟨callee, args, argTypes⟩ := c
    rw [ho] at h
    cases callee with
    | value f => rfl
    | invoke r m => rfl
    | builtin b =>
      simp only [Op.operands, Call.operands, Array.empty_append] at h
      have h' : ∀ x ∈ args.toList, evalA ts x = evalA ts' x := fun x hx => h x (by simpa using hx)
      simp only [builtinA, hp]
      split <;> first | rfl | skip
      all_goals (rename_i q1 q2; rw [q2] at h')
      all_goals (simp only [List.mem_cons, List.not_mem_nil, or_false, forall_eq_or_imp, forall_eq] at h')
      all_goals first
        | (rw [h'.1, h'.2])
        | (rw [h'])
  | move x => rw [ho] at h; simp only; rw [h x (by simp [Op.operands])]
  | assign x => rw [ho] at h; simp only; rw [h x (by simp [Op.operands])]
  | pick c x y => rw [ho] at h; simp only; rw [h c (by simp [Op.operands]), h x (by simp [Op.operands]), h y (by simp [Op.operands])]
  | box t x => rw [ho] at h; simp only; rw [h x (by simp [Op.operands])]
  | build t ps => rw [ho] at h; simp only; rw [partsA_congr (fun x hx => h x (by simp only [Op.operands]; simpa using hx))]
  | buildSlice t n ps => rw [ho] at h; simp only; rw [partsA_congr (fun x hx => h x (by simp only [Op.operands]; simpa using hx))]
  | load t x => rw [ho] at h; simp only; rw [h x (by simp [Op.operands])]
  | store t x y => rw [ho] at h; simp only; rw [h x (by simp [Op.operands]), h y (by simp [Op.operands])]
  | nilCheck x => rw [ho] at h; simp only; rw [h x (by simp [Op.operands])]
  | binOp op t x y ty => rw [ho] at h; simp only [binA, hp]; rw [h x (by simp [Op.operands]), h y (by simp [Op.operands])]
  | unOp op t x => simp only [hp]
  | convert s d x => rw [ho] at h; simp only [hp]; rw [h x (by simp [Op.operands])]
  | makeInterface t x => rw [ho] at h; simp only; rw [h x (by simp [Op.operands])]
  | makeFunc fn xs ys =>
    rw [ho] at h
    simp only
    rw [evalsA_congr (fun x hx => h x (by simp only [Op.operands]; exact Array.mem_append_left _ (by simpa using hx))), evalsA_congr (fun x hx => h x (by simp only [Op.operands]; exact Array.mem_append_right _ (by simpa using hx)))]
  | makeSlice t x y => rw [ho] at h; simp only; rw [h x (by simp [Op.operands]), h y (by simp [Op.operands])]
  | slice t x lo hi mx =>
    rw [ho] at h
    simp only [hp]
    rw [h x (by simp [Op.operands]), evalO_congr (x := lo) (fun y hy => h y (by simp only [Op.operands, Array.mem_append]; exact .inl (.inl (.inr hy)))), evalO_congr (x := hi) (fun y hy => h y (by simp only [Op.operands, Array.mem_append]; exact .inl (.inr hy))),
      evalO_congr (x := mx) (fun y hy => h y (by simp only [Op.operands, Array.mem_append]; exact .inr hy))]
  | fieldAddr t x f => rw [ho] at h; simp only; rw [h x (by simp [Op.operands])]
  | field t x f => rw [ho] at h; simp only; rw [h x (by simp [Op.operands])]
  | indexAddr t x i => rw [ho] at h; simp only; rw [h x (by simp [Op.operands]), h i (by simp [Op.operands])]
  | index t x i => rw [ho] at h; simp only; rw [h x (by simp [Op.operands]), h i (by simp [Op.operands])]
  | lookup t m k ok => rw [ho] at h; simp only; rw [h m (by simp [Op.operands]), h k (by simp [Op.operands])]
  | mapUpdate t m k v => rw [ho] at h; simp only; rw [h m (by simp [Op.operands]), h k (by simp [Op.operands]), h v (by simp [Op.operands])]
  | insert t m k v => rw [ho] at h; simp only; rw [h m (by simp [Op.operands]), h k (by simp [Op.operands]), h v (by simp [Op.operands])]
  | range t x => rw [ho] at h; simp only; rw [h x (by simp [Op.operands])]
  | makeMap t r => cases r <;> rfl
  | next x s => rw [ho] at h; cases s; simp only; rw [h x (by simp [Op.operands])]; rfl
  | entry x => rw [ho] at h; simp only; rw [h x (by simp [Op.operands])]
  | extract x i => rw [ho] at h; simp only; rw [h x (by simp [Op.operands])]
  | _ => rfl
theorem stepOp_congr {o : Oper} (h : ∀ x ∈ o.op.operands, evalA ts x = evalA ts' x) : stepOp G P T ts S o = stepOp G P T ts' S o := by
  have ha := aop_congr (P := P) (T := T) (S := S) h
  unfold stepOp
  split
  · rename_i f args argTypes ho
    rw [ho] at h
    rw [h f (by simp [Op.operands, Call.operands]), evalsA_congr (fun x hx => h x (by simp only [Op.operands, Call.operands]; exact Array.mem_append_right _ (by simpa using hx)))]
  · rw [ha]
theorem evalA_congr {x : Operand} (h : ∀ t, x = .tmp t → ts[t]? = ts'[t]?) : evalA ts x = evalA ts' x := by
  cases x with
  | tmp t => simp only [evalA, lget_eq]; rw [h t rfl]
  | _ => rfl
end
end Go.Ax
end
