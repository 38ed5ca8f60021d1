/- Part 13 of a proof of a statement about the given program: an abstract machine over the model, proved sound, and contracts of the functions that the statement reaches; the last part proves the statement, for every input, with no condition. -/
import Derived.Test.YtcfelhfcjdofoaaGreatDoorX11
import Derived.MapKept
import Derived.Laws.StructEq
import Derived.TacticsIn
import Derived.OrdersIn
import Derived.Orders
import Derived.RangeFuncLeaves
import Derived.RangeFuncFrom
set_option linter.unusedSimpArgs false
set_option linter.unusedVariables false
/- Ab, part 13: what a call is said to come to; a region in the order of its text. -/
set_option autoImplicit false
set_option linter.unusedVariables false
namespace Go.Ab

def ofB (B : List Ob) : Id → Option Ob
  | .b j => B[j]?
  | .s _ _ => none
def callable (P : Program) (f : FuncId) : Prop := ∃ fn, P.funcs[f]? = some fn ∧ (fn.name == "runtime.NumGoroutine") = false ∧ fn.body.isSome = true

section
variable (P : Program) (T : Nat → TI) (N : Nat)
def AC (f : FuncId) (args : List AV) (B : List Ob) (r : AV) (B' : List Ob) : Prop :=
  callable P f ∧ ∀ (I : Imm) (ρ : Pl) (w : World) (vs : List Value), vs.length = args.length → (∀ (i : Nat) (a : AV) (v : Value), args[i]? = some a → vs[i]? = some v → RepV T N I ρ a v) → WRep T N I ρ (ofB B) w →
    Calls P f vs.toArray w fun e w' => ∃ v I' ρ', e = .returned v ∧ Ev I ρ w I' ρ' w' ∧ RepV T N I' ρ' r v ∧ WRep T N I' ρ' (ofB B') w'
end

section
variable {P : Program} {T : Nat → TI} {N : Nat}

def memI (w : World) : Imm := fun b o => w.cell? ⟨b, o, none⟩

theorem Rep1.scalar {I : Imm} {ρ : Pl} {x : Value} {y : Value} (h : Rep1 T N I ρ (.v x) y) (I' : Imm) (ρ' : Pl) : Rep1 T N I' ρ' (.v x) y := by
  obtain ⟨rfl, hp⟩ := h.v
  exact rep1_v hp
theorem RepV.scalar {I : Imm} {ρ : Pl} {x : AV} {y : Value} (h : RepV T N I ρ x y) (hx : scalarA x = true) (I' : Imm) (ρ' : Pl) : RepV T N I' ρ' x y := by
  cases h with
  | one h =>
    cases x <;> first | cases hx | skip
    · exact .one (h.scalar I' ρ')
    · obtain ⟨cs, g, _⟩ := h; exact absurd g no_rep_tup
  | tup ys hl h =>
    refine .tup ys hl (fun i c hi => ?_)
    simp only [scalarA, List.all_eq_true] at hx
    have hc := hx c (List.mem_of_getElem? hi)
    split at hc
    · exact (h i _ hi).scalar I' ρ'
    · cases hc
theorem Rep1.noIds {I : Imm} {ρ : Pl} {x : AV} {y : Value} (h : Rep1 T N I ρ x y) (hx : Ab.noIds x = true) (ρ' : Pl) : Rep1 T N I ρ' x y := by
  obtain ⟨cs, h1, h2⟩ := h
  exact ⟨cs, h1.noIds hx ρ', h2⟩
theorem RepV.noIds {I : Imm} {ρ : Pl} {x : AV} {y : Value} (h : RepV T N I ρ x y) (hx : noIdsR x = true) (ρ' : Pl) : RepV T N I ρ' x y := by
  cases h with
  | one h =>
    refine .one (h.noIds ?_ ρ')
    cases x <;> first | exact hx | (obtain ⟨cs, g, _⟩ := h; exact absurd g no_rep_tup)
  | tup ys hl h =>
    simp only [noIdsR, List.all_eq_true] at hx
    exact .tup ys hl (fun i c hi => (h i c hi).noIds (hx c (List.mem_of_getElem? hi)) ρ')

theorem WRep.ty_lt {I : Imm} {ρ : Pl} {m : Id → Option Ob} {w : World} (hw : WRep T N I ρ m w) {id : Id} {B : Blk} (hm : m id = some (.cells B)) : B.ty < N := by
  rcases hw.cells id B hm with ⟨_, _, _, h⟩ | ⟨p, cs, _, _, _, h, _⟩
  · exact h
  · exact h
theorem blt_bif {α : Type} {i n : Nat} (h : i < n) (a b : α) : (bif Nat.blt i n then a else b) = a := by
  have : Nat.blt i n = true := by rw [Nat.blt_eq]; exact h
  rw [this, cond_true]
theorem Rep.dview (hT : TOK P T N) {I : Imm} {ρ0 : Pl} {m : Id → Option Ob} {w : World} (hw : WRep T N I ρ0 m w) {ρ : Pl} {x : AV} {cs : List Value} (h : Rep T N I ρ x cs) : (∀ id p, ρ id = some p → ρ0 id = some p) → dok m x → Rep T N (memI w) noPl (Ab.dview m x) cs ∧ ∀ t, fit T t (Ab.dview m x) = fit T t x := by
  have hI : ImLe I (memI w) := fun b o z hz => hw.imm b o z hz
  induction h with
  | v h => intro _ _; exact ⟨.v h, fun t => rfl⟩
  | struct fs segs hk hn ht h hf hl ih =>
    intro hρ hd
    have hd' : ∀ i, i < _ → dok m _ := hd
    have hlt : ∀ i u, fs[i]? = some u → i < _ := fun i u hu => hn ▸ (List.getElem?_eq_some_iff.1 hu).1
    exact ⟨.struct fs segs hk hn ht (fun i u hu => by rw [blt_bif (hlt i u hu)]; exact (ih i u hu hρ (hd' i (hlt i u hu))).1) (fun i u hu => by rw [blt_bif (hlt i u hu), (ih i u hu hρ (hd' i (hlt i u hu))).2]; exact hf i u hu) hl, fun t => rfl⟩
  | array e segs hk ht h hf hl ih =>
    intro hρ hd
    have hd' : ∀ i, i < _ → dok m _ := hd
    exact ⟨.array e segs hk ht (fun i hi => by rw [blt_bif hi]; exact (ih i hi hρ (hd' i hi)).1) (fun i hi => by rw [blt_bif hi, (ih i hi hρ (hd' i hi)).2]; exact hf i hi) hl, fun t => rfl⟩
  | row b off cap segs he hc hm hfull h hf hl hi _ =>
    intro _ _
    exact ⟨(Rep.row (ρ := noPl) b off cap segs he hc hm hfull h hf hl hi).mono hI (PlLe.refl _), fun t => rfl⟩
  | row0 he => intro _ _; exact ⟨.row0 he, fun t => rfl⟩
  | rp b off seg ht h hf hl hi _ => intro _ _; exact ⟨(Rep.rp (ρ := noPl) b off seg ht h hf hl hi).mono hI (PlLe.refl _), fun t => rfl⟩
  | @own ρ id n i len cap x p hp hn hx1 hx =>
    intro hρ hd
    have hp0 := hρ _ _ hp
    simp only [dok] at hd
    simp only [Ab.dview]
    cases hmi : m id with
    | none => rw [hmi] at hd; exact hd.elim
    | some o =>
      rw [hmi] at hd
      cases o with
      | map es => exact hd.elim
      | cells B =>
        simp only at hd ⊢
        obtain ⟨e1, hno⟩ := hd
        refine ⟨?_, fun t => rfl⟩
        obtain ⟨q', cs, c1, c2, c3, c4, c5, c6, c7, c8, c9, c10⟩ := hw.cellsAt hmi hp0
        rw [hp0] at c1; cases c1
        obtain ⟨c, rfl, g1, g2, g3, g4, g5, g6⟩ := hx (by rw [c3, e1])
        have hex : ∀ k, ∃ seg, k < len → Rep T N I ρ0 (B.get (k + i)) seg ∧ fit T B.ty (B.get (k + i)) = true ∧ seg.length = (T B.ty).size ∧ ∀ o, o < (T B.ty).size → cs[(k + i) * (T B.ty).size + o]? = seg[o]? := by
          intro k
          by_cases hk : k < len
          · obtain ⟨seg, hs⟩ := c8 (k + i) (by omega)
            exact ⟨seg, fun _ => hs⟩
          · exact ⟨[], fun h => absurd h hk⟩
        have hseg := fun k => Classical.choose_spec (hex k)
        refine .row p.b (i * (T p.ty).size) c (fun k => Classical.choose (hex k)) c4 g1 g2 (fun h => by cases h) (fun k hk => (((hseg k hk).1.noIds (hno k hk) noPl).mono hI (PlLe.refl _))) (fun k hk => (hseg k hk).2.1) (fun k hk => (hseg k hk).2.2.1) (fun k hk o ho => ?_)
        have h1 := (hseg k hk).2.2.2 o ho
        simp only [memI, World.cell?, c5]
        simp only [Option.isSome_none, Bool.false_eq_true, if_false]
        rw [← h1, c2]
        congr 1
        rw [Nat.add_mul]; omega
  | @own0 ρ id cap =>
    intro _ hd
    simp only [dok] at hd
    simp only [Ab.dview]
    cases hmi : m id with
    | none => rw [hmi] at hd; exact hd.elim
    | some o =>
      rw [hmi] at hd
      cases o with
      | map es => exact hd.elim
      | cells B => exact ⟨.row0 (hw.ty_lt hmi), fun t => rfl⟩
  | arr => intro _ hd; cases hd
  | ptr => intro _ hd; cases hd
  | @clo ρ f caps ys hl h ih =>
    intro _ hd
    exact ⟨((Rep.clo (I := I) (T := T) (N := N) (ρ := ρ) ys hl h).noIds hd noPl).mono hI (PlLe.refl _), fun t => rfl⟩
  | mp => intro _ hd; cases hd
theorem frz1_sound (hT : TOK P T N) {I : Imm} {ρ : Pl} {m : Id → Option Ob} {w : World} (hw : WRep T N I ρ m w) {x : AV} {y : Value} {r : AV × Option Prop × Bool × List Id} (hx : RepV T N I ρ x y) (h : frz1 T m x = some r) (hc : holdsC r.2.1) :
    RepV T N (memI w) noPl r.1 y ∧ (r.2.2.1 = false → RepV T N I noPl r.1 y) := by
  have hI : ImLe I (memI w) := fun b o z hz => hw.imm b o z hz
  unfold frz1 at h
  split at h
  · rename_i id n i len cap
    split at h
    · rename_i B hm
      rw [show (fun j => B.get (j + i)) = fun j => B.get (i + j) from funext fun j => by rw [Nat.add_comm]] at h
      cases h
      simp only [holdsC] at hc
      obtain ⟨e1, hc⟩ := hc
      have hc := fun j hj => (show noIds (B.get (i + j)) = true from Nat.add_comm j i ▸ hc j hj)
      rcases Rep.own_inv (hx.rep1 (fun _ => by simp)) with ⟨rfl, rfl, rfl, rfl⟩ | ⟨q, hq, hn, hx⟩
      · exact ⟨.one ⟨[_], .row0 (hw.ty_lt hm), rfl⟩, fun h => by cases h⟩
      obtain ⟨q', cs, c1, c2, c3, c4, c5, c6, c7, c8, c9, c10⟩ := hw.cellsAt hm hq
      rw [hq] at c1; cases c1
      obtain ⟨c, rfl, g1, g2, g3, g4, g5, g6⟩ := hx (by rw [c3, e1])
      refine ⟨.one ⟨[_], ?_, rfl⟩, fun h => by cases h⟩
      have hex : ∀ k, ∃ seg, k < len → Rep T N I ρ (B.get (i + k)) seg ∧ fit T B.ty (B.get (i + k)) = true ∧ seg.length = (T B.ty).size ∧ ∀ o, o < (T B.ty).size → cs[(i + k) * (T B.ty).size + o]? = seg[o]? := by
        intro k
        by_cases hk : k < len
        · obtain ⟨seg, hs⟩ := c8 (i + k) (by omega)
          exact ⟨seg, fun _ => hs⟩
        · exact ⟨[], fun h => absurd h hk⟩
      have hseg := fun k => Classical.choose_spec (hex k)
      refine .row q.b (i * (T q.ty).size) c (fun k => Classical.choose (hex k)) c4 g1 g2 (fun h => by cases h) (fun k hk => (((hseg k hk).1.noIds (hc k hk) noPl).mono hI (PlLe.refl _))) (fun k hk => (hseg k hk).2.1) (fun k hk => (hseg k hk).2.2.1) (fun k hk o ho => ?_)
      have h1 := (hseg k hk).2.2.2 o ho
      simp only [memI, World.cell?, c5]
      simp only [Option.isSome_none, Bool.false_eq_true, if_false]
      rw [← h1, c2]
      congr 1
      rw [Nat.add_mul]; omega
    · cases h
  · rename_i id n i p lo len hi
    split at h
    · rename_i B hm
      simp only [Option.bind_eq_some_iff, Option.some.injEq] at h
      obtain ⟨e, he, rfl⟩ := h
      simp only [holdsC] at hc
      obtain ⟨e1, hc⟩ := hc
      obtain ⟨q, hq, hn, hx⟩ := Rep.arr_inv (hx.rep1 (fun _ => by simp))
      obtain ⟨q', cs, c1, c2, c3, c4, c5, c6, c7, c8, c9, c10⟩ := hw.cellsAt hm hq
      rw [hq] at c1; cases c1
      obtain ⟨hi', ta, ka, ea, g1, g2, g3, g4, g5, g6, rfl⟩ := hx (by rw [c3, e1])
      rw [← c2, pathTy_snoc p g1] at he
      have hea : ea = e := by simpa [pathTy, g3] using he
      subst hea
      refine ⟨.one ⟨[_], ?_, rfl⟩, fun h => by cases h⟩
      have hex : ∀ k, ∃ seg, k < len → Rep T N I ρ (((B.get i).at p).at [lo + k]) seg ∧ fit T ea (((B.get i).at p).at [lo + k]) = true ∧ seg.length = (T ea).size ∧
          ∀ o, o < (T ea).size → w.cell? ⟨q.b, i * (T q.ty).size + pathOff T q.ty p + lo * (T ea).size + (k * (T ea).size + o), none⟩ = seg[o]? := by
        intro k
        by_cases hk : k < len
        · obtain ⟨seg, s1, s2, s3, s4⟩ := ptr_cells hw hm hq (i := i) (p := p ++ [lo + k]) (t := ea) (by rw [e1]; exact hi') (by rw [← c2, pathTy_snoc p g1]; simp [pathTy, g3]) (by rw [← c2]; exact pathIn_snoc p g1 g2 (by simp [pathIn, g3]; omega))
          rw [at_snoc] at s1 s2
          refine ⟨seg, fun _ => ⟨s1, s2, s3, fun o ho => ?_⟩⟩
          rw [← s4 o ho, pathOff_snoc p g1]
          congr 2
          simp only [pathOff, g3, Nat.add_mul]
          omega
        · exact ⟨[], fun h => absurd h hk⟩
      have hseg := fun k => Classical.choose_spec (hex k)
      refine .row q.b (i * (T q.ty).size + pathOff T q.ty p + lo * (T ea).size) (hi - lo) (fun k => Classical.choose (hex k)) (hT.array ta ka ea g3).1 (by omega) (by omega) (fun h => by cases h) (fun k hk => (((hseg k hk).1.noIds (hc k hk) noPl).mono hI (PlLe.refl _))) (fun k hk => (hseg k hk).2.1) (fun k hk => (hseg k hk).2.2.1) (fun k hk o ho => ?_)
      exact (hseg k hk).2.2.2 o ho
    · cases h
  · cases h
  · rename_i id n i p
    split at h
    · rename_i B hm
      simp only [Option.bind_eq_some_iff, Option.some.injEq] at h
      obtain ⟨t, ht, rfl⟩ := h
      simp only [holdsC] at hc
      obtain ⟨e1, hd⟩ := hc
      refine ⟨.one ?_, fun h => by cases h⟩
      obtain ⟨cs, hr, hy⟩ := hx.rep1 (fun _ => by simp)
      cases hr with
      | ptr q hq hn hx1 hxp =>
      obtain ⟨q', ds, c1, c2, c3, _⟩ := hw.cellsAt hm hq
      rw [hq] at c1; cases c1
      obtain ⟨hi, hpi, rfl⟩ := hxp (by rw [c3, e1])
      obtain ⟨seg, s1, s2, s3, s4⟩ := ptr_cells hw hm hq (i := i) (p := p) (t := t) (by omega) ht (by rw [← c2]; exact hpi)
      obtain ⟨v1, v2⟩ := s1.dview hT hw (fun _ _ h => h) hd
      refine ⟨[_], .rp q.b (i * (T q.ty).size + pathOff T q.ty p) seg (hT.pathLt p (hw.ty_lt hm) ht) v1 (by rw [v2]; exact s2) s3 (fun o ho => ?_), hy⟩
      exact s4 o ho
    · cases h
  · rename_i h1 h2 h3 h4
    obtain ⟨hb, h⟩ := cond_some h
    cases h
    have hx1 := hx.rep1 (fun vs e => h3 vs e)
    exact ⟨.one ((hx1.noIds hb noPl).mono hI (PlLe.refl _)), fun _ => .one (hx1.noIds hb noPl)⟩

theorem frzL_sound (hT : TOK P T N) {I : Imm} {ρ : Pl} {m : Id → Option Ob} {w : World} (hw : WRep T N I ρ m w) : ∀ (xs : List AV) (ys : List Value) (r : List AV × Option Prop × Bool × List Id), ys.length = xs.length →
    (∀ (i : Nat) (x : AV) (y : Value), xs[i]? = some x → ys[i]? = some y → RepV T N I ρ x y) → frzL T m xs = some r → holdsC r.2.1 →
    r.1.length = xs.length ∧ (∀ (i : Nat) (x : AV) (y : Value), r.1[i]? = some x → ys[i]? = some y → RepV T N (memI w) noPl x y ∧ (r.2.2.1 = false → RepV T N I noPl x y))
  | [], ys, r, _, _, h, _ => by cases h; exact ⟨rfl, fun i x y hi => by simp at hi⟩
  | x :: xs, [], r, hl, _, _, _ => by simp at hl
  | x :: xs, y :: ys, r, hl, hr, h, hc => by
    simp only [frzL, Option.bind_eq_some_iff, Option.some.injEq] at h
    obtain ⟨a, h1, l, h2, rfl⟩ := h
    rw [holdsC_andC] at hc
    have g1 := frz1_sound hT hw (hr 0 x y rfl rfl) h1 hc.1
    have g2 := frzL_sound hT hw xs ys l (by simpa using hl) (fun i x' y' h3 h4 => hr (i + 1) x' y' (by simpa using h3) (by simpa using h4)) h2 hc.2
    refine ⟨by simp [g2.1], fun i x' y' h3 h4 => ?_⟩
    cases i with
    | zero =>
      simp at h3 h4
      subst h3 h4
      exact ⟨g1.1, fun hb => g1.2 (by simp only [Bool.or_eq_false_iff] at hb; exact hb.1)⟩
    | succ i =>
      simp at h3 h4
      have := g2.2 i x' y' h3 h4
      exact ⟨this.1, fun hb => this.2 (by simp only [Bool.or_eq_false_iff] at hb; exact hb.2)⟩

theorem wrep_none {I : Imm} {w : World} (h : ∀ b o y, I b o = some y → w.cell? ⟨b, o, none⟩ = some y) (hg : ∀ (b o n : Nat), (T b).glb[o]? = some n → I b o = some (.int .u8 n)) : WRep T N I noPl (ofB []) w where
  cells := fun id B hm => by cases id <;> simp [ofB] at hm
  maps := fun id es hm => by cases id <;> simp [ofB] at hm
  dom := fun id p hp => by simp [noPl] at hp
  inj := fun i j p q hp => by simp [noPl] at hp
  imm := h
  gl := hg

theorem WRep.untouched {I I' : Imm} {ρ : Pl} {m : Id → Option Ob} {w w' : World} (hw : WRep T N I ρ m w) (hh : ∀ b, b < w.heap.size → w'.heap[b]? = w.heap[b]?) (hI : ImLe I I') (hN : ∀ b o, I b o = none → I' b o ≠ none → w.heap.size ≤ b)
    (hi : ∀ b o y, I' b o = some y → w'.cell? ⟨b, o, none⟩ = some y) : WRep T N I' ρ m w' where
  cells := fun id B hm => by
    rcases hw.cells id B hm with h | ⟨p, ds, d1, d2, d3, d4, d5, d6, d7, d8, d9, d10⟩
    · exact .inl h
    have hp := hw.place_lt d1
    refine .inr ⟨p, ds, d1, d2, d3, d4, by rw [hh _ hp]; exact d5, d6, d7, fun i hi => ?_, fun j hj => d9 j (fun e => ?_), d10⟩
    · obtain ⟨seg, e1, e2, e3, e4⟩ := d8 i hi
      exact ⟨seg, e1.mono hI (PlLe.refl _), e2, e3, e4⟩
    · have := hN _ _ e hj; omega
  maps := fun id es hm => by
    obtain ⟨p, en, cl, d1, d2, d3, d4, d5, d6⟩ := hw.maps id es hm
    have hp := hw.place_lt d1
    refine ⟨p, en, cl, d1, d2, by rw [hh _ hp]; exact d3, d4, fun j => ?_, fun i k v hi => ?_⟩
    · cases hj : I' p.b j with
      | none => rfl
      | some y => have := hN _ _ (d5 j) (by rw [hj]; simp); omega
    · obtain ⟨e, e1, e2, e3⟩ := d6 i k v hi
      exact ⟨e, e1, e2.mono hI (PlLe.refl _), e3.mono hI (PlLe.refl _)⟩
  dom := hw.dom
  inj := hw.inj
  imm := hi
  gl := fun b o n h => hI _ _ _ (hw.gl b o n h)

theorem call_pure (hT : TOK P T N) {I : Imm} {ρ : Pl} {m : Id → Option Ob} {w : World} (hw : WRep T N I ρ m w) {f : FuncId} {args : List AV} {r : AV} {vs : List Value} {fz : Bool} (hac : AC P T N f args [] r []) (hl : vs.length = args.length)
    (hargs : ∀ (i : Nat) (x : AV) (y : Value), args[i]? = some x → vs[i]? = some y → RepV T N (memI w) noPl x y ∧ (fz = false → RepV T N I noPl x y)) (hr : noIdsR r = true) (hs : fz = true → scalarA r = true) :
    Calls P f vs.toArray w fun e w' => ∃ v I', e = .returned v ∧ Ev I ρ w I' ρ w' ∧ RepV T N I' ρ r v ∧ WRep T N I' ρ m w' := by
  cases fz with
  | true =>
    refine (hac.2 (memI w) noPl w vs hl (fun i x y h1 h2 => (hargs i x y h1 h2).1) (wrep_none (fun b o y h => h) (fun b o n h => hw.imm _ _ _ (hw.gl b o n h)))).mono ?_
    rintro e w' ⟨v, I', ρ', rfl, hev, hv, hw'⟩
    have hh : ∀ b, b < w.heap.size → w'.heap[b]? = w.heap[b]? := fun b hb => hev.frame b hb (fun id p hp => by simp [noPl] at hp)
    refine ⟨v, I, rfl, ⟨ImLe.refl _, fun b o h h' => absurd h h', PlLe.refl _, fun id p hp => .inl ⟨id, p, hp, rfl⟩, fun b hb _ => hh b hb, hev.size, hev.os, hev.output, hev.tape⟩, hv.scalar (hs rfl) _ _, ?_⟩
    exact hw.untouched hh (ImLe.refl _) (fun b o h h' => absurd h h') (fun b o y h => by
      have h0 := hw.imm b o y h
      rw [cell?_heap (hh b (cell?_lt h0))]; exact h0)
  | false =>
    refine (hac.2 I noPl w vs hl (fun i x y h1 h2 => (hargs i x y h1 h2).2 rfl) (wrep_none hw.imm hw.gl)).mono ?_
    rintro e w' ⟨v, I', ρ', rfl, hev, hv, hw'⟩
    have hh : ∀ b, b < w.heap.size → w'.heap[b]? = w.heap[b]? := fun b hb => hev.frame b hb (fun id p hp => by simp [noPl] at hp)
    have hN : ∀ b o, I b o = none → I' b o ≠ none → w.heap.size ≤ b := fun b o h h' => by
      rcases hev.immN b o h h' with ⟨id, p, hp, _⟩ | h
      · simp [noPl] at hp
      · exact h
    refine ⟨v, I', rfl, ⟨hev.imm, fun b o h h' => .inr (hN b o h h'), PlLe.refl _, fun id p hp => .inl ⟨id, p, hp, rfl⟩, fun b hb _ => hh b hb, hev.size, hev.os, hev.output, hev.tape⟩, hv.noIds hr _, ?_⟩
    exact hw.untouched hh hev.imm hN hw'.imm
end
end Go.Ab

/- Ab, part 14: names of objects changed; what is read stays for good; a call to which objects are lent. -/
set_option autoImplicit false
set_option linter.unusedVariables false
namespace Go.Ab
section
variable {P : Program} {T : Nat → TI} {N : Nat}

theorem renL_eq (σ : Id → Id) : ∀ l, renL σ l = l.map (ren σ)
  | [] => rfl
  | x :: r => by simp [renL, renL_eq σ r]
theorem okIdsL_eq (ids : List Id) : ∀ l, okIdsL ids l = l.all (okIds ids)
  | [] => rfl
  | x :: r => by simp [okIdsL, okIdsL_eq ids r]
theorem fit_ren (σ : Id → Id) (t : Nat) (x : AV) : fit T t (ren σ x) = fit T t x := by cases x <;> simp [ren, fit]

theorem Rep.ren {I : Imm} {ρ : Pl} {x : AV} {cs : List Value} (h : Rep T N I ρ x cs) : ∀ {ρ' : Pl} {ids : List Id} {σ : Id → Id}, (∀ id, hasId ids id = true → ρ' (σ id) = ρ id) → okIds ids x = true → Rep T N I ρ' (Ab.ren σ x) cs := by
  induction h with
  | v h => intro _ _ _ _ _; exact .v h
  | struct fs segs hk hn ht h hf hl ih =>
    intro ρ' ids σ hσ hi
    simp only [okIds, List.all_eq_true, List.mem_range] at hi
    simp only [Ab.ren]
    exact .struct fs segs hk hn ht (fun i u hu => ih i u hu hσ (hi i (by rw [← hn]; exact (List.getElem?_eq_some_iff.1 hu).1))) (fun i u hu => by rw [fit_ren]; exact hf i u hu) hl
  | array e segs hk ht h hf hl ih =>
    intro ρ' ids σ hσ hi
    simp only [okIds, List.all_eq_true, List.mem_range] at hi
    simp only [Ab.ren]
    exact .array e segs hk ht (fun i h' => ih i h' hσ (hi i h')) (fun i h' => by rw [fit_ren]; exact hf i h') hl
  | row b off cap segs he hc hm hfull h hf hl hI ih => intro _ _ _ _ _; exact .row b off cap segs he hc hm hfull h hf hl hI
  | row0 he => intro _ _ _ _ _; exact .row0 he
  | rp b off seg ht h hf hl hI => intro _ _ _ _ _; exact .rp b off seg ht h hf hl hI
  | own p hp hn hx1 hx => intro ρ' ids σ hσ hi; exact .own p (by rw [hσ _ hi]; exact hp) hn hx1 hx
  | own0 => intro _ _ _ _ _; exact .own0
  | arr p hp hn hx1 hx => intro ρ' ids σ hσ hi; exact .arr p (by rw [hσ _ hi]; exact hp) hn hx1 hx
  | ptr p hp hn hx1 hx => intro ρ' ids σ hσ hi; exact .ptr p (by rw [hσ _ hi]; exact hp) hn hx1 hx
  | @clo _ f caps ys hl h ih =>
    intro ρ' ids σ hσ hi
    simp only [okIds, okIdsL_eq, List.all_eq_true] at hi
    simp only [Ab.ren, renL_eq]
    refine .clo ys (by simpa using hl) (fun i c hc => ?_)
    simp only [List.getElem?_map, Option.map_eq_some_iff] at hc
    obtain ⟨c', h1, rfl⟩ := hc
    exact ih i c' h1 hσ (hi c' (List.mem_of_getElem? h1))
  | mp p hp hx1 hx => intro ρ' ids σ hσ hi; exact .mp p (by rw [hσ _ hi]; exact hp) hx1 hx
theorem packV_ren (σ : Id → Id) (x : AV) (cs : List Value) : packV (ren σ x) cs = packV x cs := by cases x <;> simp [ren, packV]
theorem Rep1.ren {I : Imm} {ρ : Pl} {x : AV} {y : Value} (h : Rep1 T N I ρ x y) {ρ' : Pl} {ids : List Id} {σ : Id → Id} (hσ : ∀ id, hasId ids id = true → ρ' (σ id) = ρ id) (hi : okIds ids x = true) : Rep1 T N I ρ' (Ab.ren σ x) y := by
  obtain ⟨cs, h1, h2⟩ := h
  exact ⟨cs, h1.ren hσ hi, by rw [packV_ren]; exact h2⟩
theorem RepV.ren {I : Imm} {ρ : Pl} {x : AV} {y : Value} (h : RepV T N I ρ x y) {ρ' : Pl} {ids : List Id} {σ : Id → Id} (hσ : ∀ id, hasId ids id = true → ρ' (σ id) = ρ id) (hi : okIds ids x = true) : RepV T N I ρ' (Ab.ren σ x) y := by
  cases h with
  | one h => exact .one (h.ren hσ hi)
  | @tup vs ys hl h =>
    simp only [okIds, okIdsL_eq, List.all_eq_true] at hi
    simp only [Ab.ren, renL_eq]
    refine .tup ys (by simpa using hl) (fun i c hc => ?_)
    simp only [List.getElem?_map, Option.map_eq_some_iff] at hc
    obtain ⟨c', h1, rfl⟩ := hc
    exact (h i c' h1).ren hσ (hi c' (List.mem_of_getElem? h1))

/-! ### what is read stays as it is for good -/
def addN (I : Imm) (b : Nat) (cs : List Value) (k : Nat) : Imm := fun c o => if c = b ∧ o < k then cs[o]? else I c o
theorem WRep.freeze {I : Imm} {ρ : Pl} {m : Id → Option Ob} {w : World} (hw : WRep T N I ρ m w) {id : Id} {B : Blk} (hm : m id = some (.cells B)) {q : Place} (hq : ρ id = some q) {cs : Array Value} (hh : w.heap[q.b]? = some (.cells cs B.ty (0, 0))) {k : Nat} (hk : k ≤ B.n) :
    ImLe I (addN I q.b cs.toList (k * (T B.ty).size)) ∧ Ev I ρ w (addN I q.b cs.toList (k * (T B.ty).size)) ρ w ∧ WRep T N (addN I q.b cs.toList (k * (T B.ty).size)) ρ (setM m id (.cells { B with fz := max B.fz k })) w := by
  obtain ⟨q', cs0, c1, c2, c3, c4, c5, c6, c7, c8, c9, c10⟩ := hw.cellsAt hm hq
  rw [hq] at c1; cases c1
  rw [hh] at c5; cases c5
  have hle : ImLe I (addN I q.b cs.toList (k * (T B.ty).size)) := by
    intro b o y h
    unfold addN
    split
    · rename_i hb
      obtain ⟨rfl, _⟩ := hb
      have := hw.imm _ _ _ h
      simp only [World.cell?, hh] at this
      simpa using this
    · exact h
  have hne : ∀ b o, b ≠ q.b → addN I q.b cs.toList (k * (T B.ty).size) b o = I b o := fun b o h => by unfold addN; rw [if_neg (fun e => h e.1)]
  refine ⟨hle, ⟨hle, fun b o h h' => ?_, PlLe.refl _, fun a p hp => .inl ⟨a, p, hp, rfl⟩, fun _ _ _ => rfl, Nat.le_refl _, rfl, rfl, ⟨rfl, Nat.le_refl _⟩⟩, ?_, ?_, ?_, ?_, ?_, fun b o n h => hle _ _ _ (hw.gl b o n h)⟩
  · by_cases hb : b = q.b
    · exact .inl ⟨id, q, hq, hb.symm⟩
    · rw [hne b o hb] at h'; exact absurd h h'
  · intro a A hA
    by_cases ha : a = id
    · subst ha
      rw [setM_self] at hA; cases hA
      refine .inr ⟨q, cs, hq, c2, c3, c4, hh, c6, c7, fun i hi => ?_, fun j hj => ?_, by simp only; omega⟩
      · obtain ⟨seg, e1, e2⟩ := c8 i hi
        exact ⟨seg, e1.mono hle (PlLe.refl _), e2⟩
      · by_cases hjk : j < k * (T B.ty).size
        · exact Nat.lt_of_lt_of_le hjk (Nat.mul_le_mul_right _ (Nat.le_max_right _ _))
        · have : addN I q.b cs.toList (k * (T B.ty).size) q.b j = I q.b j := by unfold addN; rw [if_neg (fun e => hjk e.2)]
          rw [this] at hj
          exact Nat.lt_of_lt_of_le (c9 j hj) (Nat.mul_le_mul_right _ (Nat.le_max_left _ _))
    · rw [setM_ne _ _ ha] at hA
      rcases hw.cells a A hA with h | ⟨p, ds, d1, d2, d3, d4, d5, d6, d7, d8, d9, d10⟩
      · exact .inl h
      · have hb : p.b ≠ q.b := fun e => ha (hw.inj a id p q d1 hq e)
        refine .inr ⟨p, ds, d1, d2, d3, d4, d5, d6, d7, fun i hi => ?_, fun j hj => d9 j (by rwa [hne _ _ hb] at hj), d10⟩
        obtain ⟨seg, e1, e2⟩ := d8 i hi
        exact ⟨seg, e1.mono hle (PlLe.refl _), e2⟩
  · intro a es hA
    have ha : a ≠ id := by rintro rfl; rw [setM_self] at hA; cases hA
    rw [setM_ne _ _ ha] at hA
    obtain ⟨p, en, cl, d1, d2, d3, d4, d5, d6⟩ := hw.maps a es hA
    have hb : p.b ≠ q.b := fun e => ha (hw.inj a id p q d1 hq e)
    refine ⟨p, en, cl, d1, d2, d3, d4, fun j => by rw [hne _ _ hb]; exact d5 j, fun i k v hi => ?_⟩
    obtain ⟨e, e1, e2, e3⟩ := d6 i k v hi
    exact ⟨e, e1, e2.mono hle (PlLe.refl _), e3.mono hle (PlLe.refl _)⟩
  · intro a p hp
    by_cases ha : a = id
    · subst ha; rw [setM_self]; simp
    · rw [setM_ne _ _ ha]; exact hw.dom a p hp
  · exact hw.inj
  · intro b o y hy
    unfold addN at hy
    split at hy
    · rename_i hb
      obtain ⟨rfl, _⟩ := hb
      simp only [World.cell?, hh]
      simpa using hy
    · exact hw.imm b o y hy

theorem setM_same {m : Id → Option Ob} {id : Id} {o : Ob} (h : m id = some o) : setM m id o = m := by
  funext a
  by_cases ha : a = id
  · subst ha; rw [setM_self, h]
  · rw [setM_ne _ _ ha]
theorem fullC_eq {len : Nat} {cap : Option Nat} (h : fullC len cap = true) : cap = some len := by
  cases cap with
  | none => cases h
  | some c => rw [Nat.eq_of_beq_eq_true (show Nat.beq c len = true from h)]

theorem own_freeze (hT : TOK P T N) {I : Imm} {ρ : Pl} {m : Id → Option Ob} {w : World} (hw : WRep T N I ρ m w) {id : Id} {n i len : Nat} {cap : Option Nat} {y : Value} {B : Blk} (hm : m id = some (.cells B)) (hB : B.n = n) (hx : Rep1 T N I ρ (.own id n i len cap) y)
    (hno : ∀ j, j < len → noIds (B.get (i + j)) = true) :
    ∃ I1, ImLe I I1 ∧ Ev I ρ w I1 ρ w ∧ WRep T N I1 ρ (setM m id (.cells { B with fz := max B.fz (i + len) })) w ∧ Rep1 T N I1 noPl (.row B.ty (fullC len cap) len (fun j => B.get (i + j))) y := by
  rcases Rep.own_inv hx with ⟨rfl, rfl, rfl, rfl⟩ | ⟨q, hq, hn, hx⟩
  · refine ⟨I, ImLe.refl _, Ev.refl _ _ _, ?_, [_], .row0 (hw.ty_lt hm), rfl⟩
    have : ({ B with fz := max B.fz (0 + 0) } : Blk) = B := by simp
    rw [this, setM_same hm]; exact hw
  · obtain ⟨q', cs, c1, c2, c3, c4, c5, c6, c7, c8, c9, c10⟩ := hw.cellsAt hm hq
    rw [hq] at c1; cases c1
    obtain ⟨c, rfl, g1, g2, g3, g4, g5, g6⟩ := hx (by rw [c3, hB])
    obtain ⟨f1, f2, f3⟩ := hw.freeze hm hq c5 (k := i + len) (by omega)
    refine ⟨_, f1, f2, f3, [_], ?_, rfl⟩
    have hex : ∀ k, ∃ seg, k < len → Rep T N I ρ (B.get (i + k)) seg ∧ fit T B.ty (B.get (i + k)) = true ∧ seg.length = (T B.ty).size ∧ ∀ o, o < (T B.ty).size → cs[(i + k) * (T B.ty).size + o]? = seg[o]? := by
      intro k
      by_cases hk : k < len
      · obtain ⟨seg, hs⟩ := c8 (i + k) (by omega)
        exact ⟨seg, fun _ => hs⟩
      · exact ⟨[], fun h => absurd h hk⟩
    have hseg := fun k => Classical.choose_spec (hex k)
    refine .row q.b (i * (T q.ty).size) c (fun k => Classical.choose (hex k)) c4 g1 g2 (fun h => g6 _ (fullC_eq h)) (fun k hk => (((hseg k hk).1.noIds (hno k hk) noPl).mono f1 (PlLe.refl _))) (fun k hk => (hseg k hk).2.1) (fun k hk => (hseg k hk).2.2.1) (fun k hk o ho => ?_)
    have h1 := (hseg k hk).2.2.2 o ho
    rw [← h1, c2]
    have e1 : i * (T B.ty).size + (k * (T B.ty).size + o) = (i + k) * (T B.ty).size + o := by rw [Nat.add_mul]; omega
    have e2 : (i + k + 1) * (T B.ty).size ≤ (i + len) * (T B.ty).size := Nat.mul_le_mul_right _ (by omega)
    rw [Nat.succ_mul] at e2
    unfold addN
    rw [e1, if_pos ⟨rfl, by omega⟩]
    simp

/-! ### names -/
theorem hasId_mem {ids : List Id} {id : Id} : hasId ids id = true ↔ id ∈ ids := by
  simp only [hasId, List.any_eq_true]
  constructor
  · rintro ⟨a, h1, h2⟩; rw [idbeq_eq h2]; exact h1
  · intro h; exact ⟨id, h, idbeq_self id⟩
theorem distinct_nodup : ∀ {ids : List Id}, distinct ids = true → ids.Nodup
  | [], _ => List.nodup_nil
  | a :: r, h => by
    simp only [distinct, Bool.and_eq_true, Bool.not_eq_true'] at h
    rw [List.nodup_cons]
    refine ⟨fun hm => ?_, distinct_nodup h.2⟩
    have h1 := h.1
    rw [hasId_mem.2 hm] at h1
    cases h1
theorem sig_spec : ∀ (ids : List Id) (k : Nat) {id : Id}, id ∈ ids → ∃ j, ids[j]? = some id ∧ sig ids k id = .b (k + j)
  | [], _, _, h => by cases h
  | a :: r, k, id, h => by
    by_cases e : id = a
    · subst e; exact ⟨0, rfl, by simp [sig, idbeq_self]⟩
    · have h' : id ∈ r := by cases h with | head => exact absurd rfl e | tail _ h => exact h
      obtain ⟨j, h1, h2⟩ := sig_spec r (k + 1) h'
      exact ⟨j + 1, by simpa using h1, by simp only [sig, idbeq_ne e, cond_false, h2]; congr 1; omega⟩
theorem nodup_idx {α : Type} {l : List α} (h : l.Nodup) {i j : Nat} {a : α} (hi : l[i]? = some a) (hj : l[j]? = some a) : i = j := by
  have h1 := (List.getElem?_eq_some_iff.1 hi).1
  exact (List.getElem?_inj h1 h).1 (hi.trans hj.symm)
theorem sig_at {ids : List Id} (h : ids.Nodup) {j : Nat} {id : Id} (hj : ids[j]? = some id) : sig ids 0 id = .b j := by
  obtain ⟨i, h1, h2⟩ := sig_spec ids 0 (List.mem_of_getElem? hj)
  rw [h2, Nat.zero_add, nodup_idx h h1 hj]
theorem tau_at {ids : List Id} {j : Nat} {id : Id} (hj : ids[j]? = some id) : tau ids (.b j) = id := by simp [tau, List.getD_eq_getElem?_getD, hj]
theorem bs_has {n : Nat} {id : Id} : hasId (bs n) id = true ↔ ∃ j, j < n ∧ id = .b j := by
  rw [hasId_mem]; simp only [bs, List.mem_map, List.mem_range]
  constructor
  · rintro ⟨j, h1, rfl⟩; exact ⟨j, h1, rfl⟩
  · rintro ⟨j, h1, rfl⟩; exact ⟨j, h1, rfl⟩
theorem sites_mem {d : Nat} : ∀ {j k : Nat} {id : Id}, id ∈ sites d j k ↔ ∃ i, j ≤ i ∧ i < j + k ∧ id = .s d i
  | j, 0, id => by simp [sites]; omega
  | j, k + 1, id => by
    simp only [sites, List.mem_cons, sites_mem (j := j + 1)]
    constructor
    · rintro (rfl | ⟨i, h1, h2, rfl⟩)
      · exact ⟨j, by omega, by omega, rfl⟩
      · exact ⟨i, by omega, by omega, rfl⟩
    · rintro ⟨i, h1, h2, rfl⟩
      by_cases e : i = j
      · subst e; exact .inl rfl
      · exact .inr ⟨i, by omega, by omega, rfl⟩
theorem sites_nodup (d : Nat) : ∀ (j k : Nat), (sites d j k).Nodup
  | _, 0 => List.nodup_nil
  | j, k + 1 => by
    simp only [sites, List.nodup_cons]
    refine ⟨fun h => ?_, sites_nodup d (j + 1) k⟩
    obtain ⟨i, h1, h2, h3⟩ := sites_mem.1 h
    cases h3; omega
theorem sites_length (d : Nat) : ∀ (j k : Nat), (sites d j k).length = k
  | _, 0 => rfl
  | j, k + 1 => by simp [sites, sites_length d (j + 1) k]

theorem appM_append (m : Id → Option Ob) : ∀ (a b : List (Id × Ob)), appM m (a ++ b) = appM (appM m a) b := by
  intro a
  induction a generalizing m with
  | nil => intro b; rfl
  | cons x a ih => intro b; simp only [List.cons_append, appM, ih]
theorem appM_zip_not {m : Id → Option Ob} {ids : List Id} {os : List Ob} {id : Id} (h : id ∉ ids) : appM m (ids.zip os) id = m id := by
  induction ids generalizing m os with
  | nil => rfl
  | cons a r ih =>
    cases os with
    | nil => rfl
    | cons o os =>
      simp only [List.mem_cons, not_or] at h
      simp only [List.zip_cons_cons, appM]
      rw [ih h.2, setM_ne _ _ h.1]
theorem appM_zip {ids : List Id} (hn : ids.Nodup) : ∀ {m : Id → Option Ob} {os : List Ob} {j : Nat} {id : Id} {o : Ob}, ids[j]? = some id → os[j]? = some o → appM m (ids.zip os) id = some o := by
  induction ids with
  | nil => intro m os j id o h; simp at h
  | cons a r ih =>
    intro m os j id o h1 h2
    rw [List.nodup_cons] at hn
    cases os with
    | nil => simp at h2
    | cons o' os =>
      simp only [List.zip_cons_cons, appM]
      cases j with
      | zero =>
        simp at h1 h2
        subst h1 h2
        rw [appM_zip_not hn.1, setM_self]
      | succ j => exact ih hn.2 (by simpa using h1) (by simpa using h2)
theorem gets_spec {m : Id → Option Ob} : ∀ {ids : List Id} {B : List Ob}, gets m ids = some B → B.length = ids.length ∧ ∀ (j : Nat) (id : Id), ids[j]? = some id → ∃ o, B[j]? = some o ∧ m id = some o
  | [], B, h => by cases h; exact ⟨rfl, fun j id h => by simp at h⟩
  | i :: r, B, h => by
    simp only [gets, Option.bind_eq_some_iff, Option.some.injEq] at h
    obtain ⟨o, h1, l, h2, rfl⟩ := h
    obtain ⟨h3, h4⟩ := gets_spec h2
    refine ⟨by simp [h3], fun j id hj => ?_⟩
    cases j with
    | zero => simp at hj; subst hj; exact ⟨o, rfl, h1⟩
    | succ j => simpa using h4 j id (by simpa using hj)
theorem okOs_at {ids : List Id} : ∀ {l : List Ob} {j : Nat} {o : Ob}, okOs ids l → l[j]? = some o → okO ids o
  | [], _, _, _, h => by simp at h
  | x :: r, j, o, h, hj => by
    cases j with
    | zero => simp at hj; subst hj; exact h.1
    | succ j => exact okOs_at h.2 (by simpa using hj)

def lendP (ids : List Id) (ρ : Pl) : Pl := fun id => match id with
  | .b j => (ids[j]?).bind ρ
  | .s _ _ => none
theorem lendP_sig {ids : List Id} (h : ids.Nodup) (ρ : Pl) : ∀ id, hasId ids id = true → lendP ids ρ (sig ids 0 id) = ρ id := by
  intro id hi
  obtain ⟨j, h1, h2⟩ := sig_spec ids 0 (hasId_mem.1 hi)
  rw [h2, Nat.zero_add]
  simp [lendP, h1]
theorem lendP_inv {ids : List Id} {ρ : Pl} {id : Id} {p : Place} (h : lendP ids ρ id = some p) : ∃ j a, id = .b j ∧ ids[j]? = some a ∧ ρ a = some p := by
  cases id with
  | b j =>
    simp only [lendP, Option.bind_eq_some_iff] at h
    obtain ⟨a, h1, h2⟩ := h
    exact ⟨j, a, rfl, h1, h2⟩
  | s k i => cases h

theorem wrep_lend {I : Imm} {ρ : Pl} {m : Id → Option Ob} {w : World} (hw : WRep T N I ρ m w) {ids : List Id} {B : List Ob} (hd : ids.Nodup) (hB : gets m ids = some B) (hok : okOs ids B) :
    WRep T N I (lendP ids ρ) (ofB (B.map (renO (sig ids 0)))) w := by
  obtain ⟨hl, hg⟩ := gets_spec hB
  have hσ := lendP_sig hd ρ
  have hof : ∀ (id : Id) (o : Ob), ofB (B.map (renO (sig ids 0))) id = some o → ∃ j a o', id = .b j ∧ ids[j]? = some a ∧ B[j]? = some o' ∧ m a = some o' ∧ o = renO (sig ids 0) o' := by
    intro id o h
    cases id with
    | s k i => cases h
    | b j =>
      simp only [ofB, List.getElem?_map, Option.map_eq_some_iff] at h
      obtain ⟨o', h1, h2⟩ := h
      have hj : j < ids.length := by rw [← hl]; exact (List.getElem?_eq_some_iff.1 h1).1
      obtain ⟨o'', h3, h4⟩ := hg j ids[j] (List.getElem?_eq_getElem hj)
      rw [h1] at h3; cases h3
      exact ⟨j, ids[j], o', rfl, List.getElem?_eq_getElem hj, h1, h4, h2.symm⟩
  refine ⟨?_, ?_, ?_, ?_, hw.imm, hw.gl⟩
  · intro id A hA
    obtain ⟨j, a, o', rfl, h1, h2, h3, h4⟩ := hof id _ hA
    have hok' := okOs_at hok h2
    cases o' with
    | map es => cases h4
    | cells B0 =>
      simp only [renO, Ob.cells.injEq] at h4
      subst h4
      rcases hw.cells a B0 h3 with ⟨h, h'⟩ | ⟨p, ds, d1, d2, d3, d4, d5, d6, d7, d8, d9, d10⟩
      · exact .inl ⟨by simp [lendP, h1, h], h'⟩
      · refine .inr ⟨p, ds, by simp [lendP, h1, d1], d2, d3, d4, d5, d6, d7, fun i hi => ?_, d9, d10⟩
        obtain ⟨seg, e1, e2, e3, e4⟩ := d8 i hi
        exact ⟨seg, e1.ren hσ (hok' i hi), by simp only; rw [fit_ren]; exact e2, e3, e4⟩
  · intro id es hA
    obtain ⟨j, a, o', rfl, h1, h2, h3, h4⟩ := hof id _ hA
    have hok' := okOs_at hok h2
    cases o' with
    | cells B0 => cases h4
    | map es0 =>
      simp only [renO, Ob.map.injEq] at h4
      subst h4
      obtain ⟨p, en, cl, d1, d2, d3, d4, d5, d6⟩ := hw.maps a es0 h3
      refine ⟨p, en, cl, by simp [lendP, h1, d1], d2, d3, by simpa using d4, d5, fun i k v hi => ?_⟩
      simp only [List.getElem?_map, Option.map_eq_some_iff, Prod.mk.injEq] at hi
      obtain ⟨⟨k0, v0⟩, h5, rfl, rfl⟩ := hi
      obtain ⟨e, e1, e2, e3⟩ := d6 i k0 v0 h5
      have := hok' _ (List.mem_of_getElem? h5)
      exact ⟨e, e1, e2.ren hσ this.1, e3.ren hσ this.2⟩
  · intro id p hp
    obtain ⟨j, a, rfl, h1, h2⟩ := lendP_inv hp
    obtain ⟨o, h3, h4⟩ := hg j a h1
    simp [ofB, h3]
  · intro i j p q hp hq e
    obtain ⟨i', a, rfl, h1, h2⟩ := lendP_inv hp
    obtain ⟨j', b, rfl, h3, h4⟩ := lendP_inv hq
    have := hw.inj a b p q h2 h4 e
    subst this
    rw [nodup_idx hd h1 h3]
end
end Go.Ab

/- Ab, part 15: behind a call to which objects were lent; what an argument is seen as; a call, whichever. -/
set_option autoImplicit false
set_option linter.unusedVariables false
namespace Go.Ab
section
variable {P : Program} {T : Nat → TI} {N : Nat}

def backP (all : List Id) (ρ ρ' : Pl) : Pl := fun id => if hasId all id = true then ρ' (sig all 0 id) else ρ id
theorem backP_in {all : List Id} (hn : all.Nodup) (ρ ρ' : Pl) {j : Nat} {id : Id} (h : all[j]? = some id) : backP all ρ ρ' id = ρ' (.b j) := by
  unfold backP
  rw [if_pos (hasId_mem.2 (List.mem_of_getElem? h)), sig_at hn h]
theorem backP_out {all : List Id} (ρ ρ' : Pl) {id : Id} (h : id ∉ all) : backP all ρ ρ' id = ρ id := by
  unfold backP
  rw [if_neg (fun e => h (hasId_mem.1 e))]

theorem wrep_back {I I' : Imm} {ρ ρ' : Pl} {m : Id → Option Ob} {w w' : World} (hw : WRep T N I ρ m w) {ids news : List Id} {out : List Ob} (hn : (ids ++ news).Nodup) (hnew : ∀ id ∈ news, m id = none) (hl : out.length = (ids ++ news).length)
    (hids : ∀ id ∈ ids, m id ≠ none)
    (hev : Ev I (lendP ids ρ) w I' ρ' w') (hw' : WRep T N I' ρ' (ofB out) w') (hok : okOs (bs out.length) out) :
    Ev I ρ w I' (backP (ids ++ news) ρ ρ') w' ∧ WRep T N I' (backP (ids ++ news) ρ ρ') (appM m ((ids ++ news).zip (out.map (renO (tau (ids ++ news)))))) w' ∧
      (∀ id, hasId (bs out.length) id = true → backP (ids ++ news) ρ ρ' (tau (ids ++ news) id) = ρ' id) := by
  have hτ : ∀ id, hasId (bs out.length) id = true → backP (ids ++ news) ρ ρ' (tau (ids ++ news) id) = ρ' id := by
    intro id h
    obtain ⟨j, h1, rfl⟩ := bs_has.1 h
    have h2 : (ids ++ news)[j]? = some ((ids ++ news)[j]'(by omega)) := List.getElem?_eq_getElem _
    rw [tau_at h2, backP_in hn _ _ h2]
  have hlend : ∀ a p, a ∈ ids → ρ a = some p → ∃ j, (ids ++ news)[j]? = some a ∧ lendP ids ρ (.b j) = some p := by
    intro a p ha hp
    obtain ⟨j, hj⟩ := List.getElem?_of_mem ha
    have hjl : j < ids.length := (List.getElem?_eq_some_iff.1 hj).1
    exact ⟨j, by rw [List.getElem?_append_left hjl]; exact hj, by simp [lendP, hj, hp]⟩
  have hnone : ∀ a p, a ∈ news → ρ a = some p → False := fun a p ha hp => hw.dom a p hp (hnew a ha)
  have hle : PlLe ρ (backP (ids ++ news) ρ ρ') := by
    intro a p hp
    by_cases ha : a ∈ ids ++ news
    · rcases List.mem_append.1 ha with h | h
      · obtain ⟨j, h1, h2⟩ := hlend a p h hp
        rw [backP_in hn _ _ h1]
        exact hev.pl _ _ h2
      · exact (hnone a p h hp).elim
    · exact ⟨p, by rw [backP_out _ _ ha]; exact hp, Nat.le_refl _, fun _ => rfl⟩
  -- a place of ours that was not lent
  have hfar : ∀ a p, a ∉ ids ++ news → ρ a = some p → ∀ id p', lendP ids ρ id = some p' → p'.b ≠ p.b := by
    intro a p ha hp id p' h e
    obtain ⟨j, a', rfl, h1, h2⟩ := lendP_inv h
    have := hw.inj a' a p' p h2 hp e
    subst this
    exact ha (List.mem_append_left _ (List.mem_of_getElem? h1))
  have hplN : ∀ id p', ρ' id = some p' → (∃ a p, a ∈ ids ∧ ρ a = some p ∧ p.b = p'.b) ∨ w.heap.size ≤ p'.b := by
    intro id p' h
    rcases hev.plN id p' h with ⟨id0, p, h1, h2⟩ | h1
    · obtain ⟨j, a, rfl, h3, h4⟩ := lendP_inv h1
      exact .inl ⟨a, p, List.mem_of_getElem? h3, h4, h2⟩
    · exact .inr h1
  have hfrb : ∀ b, b < w.heap.size → (∀ id p, lendP ids ρ id = some p → p.b ≠ b) → w'.heap[b]? = w.heap[b]? := hev.frame
  refine ⟨⟨hev.imm, ?_, hle, ?_, ?_, hev.size, hev.os, hev.output, hev.tape⟩, ⟨?_, ?_, ?_, ?_, hw'.imm, hw'.gl⟩, hτ⟩
  · intro b o h h'
    rcases hev.immN b o h h' with ⟨id, p, h1, h2⟩ | h1
    · obtain ⟨j, a, rfl, h3, h4⟩ := lendP_inv h1
      exact .inl ⟨a, p, h4, h2⟩
    · exact .inr h1
  · intro a p' h
    by_cases ha : a ∈ ids ++ news
    · obtain ⟨j, hj⟩ := List.getElem?_of_mem ha
      rw [backP_in hn _ _ hj] at h
      rcases hplN _ _ h with ⟨a0, p, _, h1, h2⟩ | h1
      · exact .inl ⟨a0, p, h1, h2⟩
      · exact .inr h1
    · rw [backP_out _ _ ha] at h
      exact .inl ⟨a, p', h, rfl⟩
  · intro b hb hne
    refine hfrb b hb (fun id p h => ?_)
    obtain ⟨j, a, rfl, h3, h4⟩ := lendP_inv h
    exact hne a p h4
  · intro a A hA
    by_cases ha : a ∈ ids ++ news
    · obtain ⟨j, hj⟩ := List.getElem?_of_mem ha
      have hjl : j < out.length := by rw [hl]; exact (List.getElem?_eq_some_iff.1 hj).1
      rw [appM_zip hn hj (o := renO (tau (ids ++ news)) out[j]) (by simp [hjl])] at hA
      have hoj : ofB out (.b j) = some out[j] := by simp [ofB, hjl]
      have hok' := okOs_at hok (List.getElem?_eq_getElem hjl)
      revert hA hoj hok'
      cases out[j] with
      | map es => intro hA; cases hA
      | cells B0 =>
        intro hA hoj hok'
        simp only [renO, Option.some.injEq, Ob.cells.injEq] at hA
        subst hA
        rcases hw'.cells (.b j) B0 hoj with ⟨h, h'⟩ | ⟨p, ds, d1, d2, d3, d4, d5, d6, d7, d8, d9, d10⟩
        · exact .inl ⟨by rw [backP_in hn _ _ hj]; exact h, h'⟩
        · refine .inr ⟨p, ds, by rw [backP_in hn _ _ hj]; exact d1, d2, d3, d4, d5, d6, d7, fun i hi => ?_, d9, d10⟩
          obtain ⟨seg, e1, e2, e3, e4⟩ := d8 i hi
          exact ⟨seg, e1.ren hτ (hok' i hi), by simp only; rw [fit_ren]; exact e2, e3, e4⟩
    · rw [appM_zip_not ha] at hA
      rcases hw.cells a A hA with ⟨h, h'⟩ | ⟨p, ds, d1, d2, d3, d4, d5, d6, d7, d8, d9, d10⟩
      · exact .inl ⟨by rw [backP_out _ _ ha]; exact h, h'⟩
      · have hp := hw.place_lt d1
        have hf := hfar a p ha d1
        refine .inr ⟨p, ds, by rw [backP_out _ _ ha]; exact d1, d2, d3, d4, by rw [hfrb _ hp hf]; exact d5, d6, d7, fun i hi => ?_, fun j hj => d9 j (fun e => ?_), d10⟩
        · obtain ⟨seg, e1, e2, e3, e4⟩ := d8 i hi
          exact ⟨seg, e1.mono hev.imm hle, e2, e3, e4⟩
        · rcases hev.immN _ _ e hj with ⟨id, p', h1, h2⟩ | h1
          · exact hf id p' h1 h2
          · omega
  · intro a es hA
    by_cases ha : a ∈ ids ++ news
    · obtain ⟨j, hj⟩ := List.getElem?_of_mem ha
      have hjl : j < out.length := by rw [hl]; exact (List.getElem?_eq_some_iff.1 hj).1
      rw [appM_zip hn hj (o := renO (tau (ids ++ news)) out[j]) (by simp [hjl])] at hA
      have hoj : ofB out (.b j) = some out[j] := by simp [ofB, hjl]
      have hok' := okOs_at hok (List.getElem?_eq_getElem hjl)
      revert hA hoj hok'
      cases out[j] with
      | cells B0 => intro hA; cases hA
      | map es0 =>
        intro hA hoj hok'
        simp only [renO, Option.some.injEq, Ob.map.injEq] at hA
        subst hA
        obtain ⟨p, en, cl, d1, d2, d3, d4, d5, d6⟩ := hw'.maps (.b j) es0 hoj
        refine ⟨p, en, cl, by rw [backP_in hn _ _ hj]; exact d1, d2, d3, by simpa using d4, d5, fun i k v hi => ?_⟩
        simp only [List.getElem?_map, Option.map_eq_some_iff, Prod.mk.injEq] at hi
        obtain ⟨⟨k0, v0⟩, h5, rfl, rfl⟩ := hi
        obtain ⟨e, e1, e2, e3⟩ := d6 i k0 v0 h5
        have := hok' _ (List.mem_of_getElem? h5)
        exact ⟨e, e1, e2.ren hτ this.1, e3.ren hτ this.2⟩
    · rw [appM_zip_not ha] at hA
      obtain ⟨p, en, cl, d1, d2, d3, d4, d5, d6⟩ := hw.maps a es hA
      have hp := hw.place_lt d1
      have hf := hfar a p ha d1
      refine ⟨p, en, cl, by rw [backP_out _ _ ha]; exact d1, d2, by rw [hfrb _ hp hf]; exact d3, d4, fun j => ?_, fun i k v hi => ?_⟩
      · cases hj : I' p.b j with
        | none => rfl
        | some y =>
          rcases hev.immN _ _ (d5 j) (by rw [hj]; simp) with ⟨id, p', h1, h2⟩ | h1
          · exact (hf id p' h1 h2).elim
          · omega
      · obtain ⟨e, e1, e2, e3⟩ := d6 i k v hi
        exact ⟨e, e1, e2.mono hev.imm hle, e3.mono hev.imm hle⟩
  · intro a p h
    by_cases ha : a ∈ ids ++ news
    · obtain ⟨j, hj⟩ := List.getElem?_of_mem ha
      have hjl : j < out.length := by rw [hl]; exact (List.getElem?_eq_some_iff.1 hj).1
      rw [appM_zip hn hj (o := renO (tau (ids ++ news)) out[j]) (by simp [hjl])]
      simp
    · rw [backP_out _ _ ha] at h
      rw [appM_zip_not ha]; exact hw.dom a p h
  · intro a c p q hp hq e
    have key : ∀ (a c : Id) (p q : Place), a ∈ ids ++ news → c ∉ ids ++ news → backP (ids ++ news) ρ ρ' a = some p → ρ c = some q → p.b = q.b → False := by
      intro a c p q ha hc hp hq e
      obtain ⟨j, hj⟩ := List.getElem?_of_mem ha
      rw [backP_in hn _ _ hj] at hp
      rcases hplN _ _ hp with ⟨a0, p0, h0, h1, h2⟩ | h1
      · have := hw.inj a0 c p0 q h1 hq (h2.trans e)
        subst this
        exact hc (List.mem_append_left _ h0)
      · have := hw.place_lt hq
        omega
    by_cases ha : a ∈ ids ++ news
    · by_cases hc : c ∈ ids ++ news
      · obtain ⟨j, hj⟩ := List.getElem?_of_mem ha
        obtain ⟨k, hk⟩ := List.getElem?_of_mem hc
        rw [backP_in hn _ _ hj] at hp
        rw [backP_in hn _ _ hk] at hq
        have := hw'.inj _ _ p q hp hq e
        cases this
        rw [hj] at hk; cases hk; rfl
      · rw [backP_out _ _ hc] at hq
        exact (key a c p q ha hc hp hq e).elim
    · by_cases hc : c ∈ ids ++ news
      · rw [backP_out _ _ ha] at hp
        exact (key c a q p hc ha hq hp e.symm).elim
      · rw [backP_out _ _ ha] at hp
        rw [backP_out _ _ hc] at hq
        exact hw.inj a c p q hp hq e

theorem view1_sound (hT : TOK P T N) {I : Imm} {ρ : Pl} {m : Id → Option Ob} {w : World} (hw : WRep T N I ρ m w) {ids : List Id} (hd : ids.Nodup) {x : AV} {y : Value} {r : AV × List (Id × Ob) × Option Prop} (hx : RepV T N I ρ x y) (h : view1 ids m x = some r) (hc : holdsC r.2.2) :
    ∃ I1, ImLe I I1 ∧ Ev I ρ w I1 ρ w ∧ WRep T N I1 ρ (appM m r.2.1) w ∧ RepV T N I1 (lendP ids ρ) r.1 y := by
  unfold view1 at h
  split at h
  · rename_i id n i len cap
    by_cases hi : hasId ids id = true
    · rw [hi] at h
      cases h
      have := hx.ren (lendP_sig hd ρ) (show okIds ids (.own id n i len cap) = true from hi)
      exact ⟨I, ImLe.refl _, Ev.refl _ _ _, hw, this⟩
    · have hi' : hasId ids id = false := by simpa using hi
      rw [hi'] at h
      simp only [cond_false] at h
      split at h
      · rename_i B hm
        have ecomm : (fun j => B.get (j + i)) = fun j => B.get (i + j) := funext fun j => by rw [Nat.add_comm]
        cases h
        simp only [holdsC] at hc
        obtain ⟨I1, h1, h2, h3, h4⟩ := own_freeze hT hw hm hc.1 (hx.rep1 (fun _ => by simp)) (fun j hj => (show noIds (B.get (i + j)) = true from Nat.add_comm j i ▸ hc.2 j hj))
        rw [← ecomm] at h4
        exact ⟨I1, h1, h2, h3, .one (h4.mono (ImLe.refl _) (noPl_le _))⟩
      · cases h
  · cases h
  · obtain ⟨hb, h⟩ := cond_some h
    cases h
    exact ⟨I, ImLe.refl _, Ev.refl _ _ _, hw, hx.ren (lendP_sig hd ρ) hb⟩
theorem viewL_sound (hT : TOK P T N) {ρ : Pl} {w : World} {ids : List Id} (hd : ids.Nodup) : ∀ (xs : List AV) (ys : List Value) {I : Imm} {m : Id → Option Ob} (r : List AV × List (Id × Ob) × Option Prop), WRep T N I ρ m w → ys.length = xs.length →
    (∀ (i : Nat) (x : AV) (y : Value), xs[i]? = some x → ys[i]? = some y → RepV T N I ρ x y) → viewL ids m xs = some r → holdsC r.2.2 →
    ∃ I1, ImLe I I1 ∧ Ev I ρ w I1 ρ w ∧ WRep T N I1 ρ (appM m r.2.1) w ∧ r.1.length = xs.length ∧ (∀ (i : Nat) (x : AV) (y : Value), r.1[i]? = some x → ys[i]? = some y → RepV T N I1 (lendP ids ρ) x y)
  | [], ys, I, m, r, hw, _, _, h, _ => by cases h; exact ⟨I, ImLe.refl _, Ev.refl _ _ _, hw, rfl, fun i x y hi => by simp at hi⟩
  | x :: xs, [], I, m, r, hw, hl, _, _, _ => by simp at hl
  | x :: xs, y :: ys, I, m, r, hw, hl, hr, h, hc => by
    simp only [viewL, Option.bind_eq_some_iff, Option.some.injEq] at h
    obtain ⟨a, h1, l, h2, rfl⟩ := h
    rw [holdsC_andC] at hc
    obtain ⟨I1, g1, g2, g3, g4⟩ := view1_sound hT hw hd (hr 0 x y rfl rfl) h1 hc.1
    obtain ⟨I2, k1, k2, k3, k4, k5⟩ := viewL_sound hT hd xs ys l g3 (by simpa using hl) (fun i x' y' h3 h4 => (hr (i + 1) x' y' (by simpa using h3) (by simpa using h4)).mono g1 (PlLe.refl _)) h2 hc.2
    refine ⟨I2, g1.trans k1, g2.trans k2, by simp only; rw [appM_append]; exact k3, by simp [k4], fun i x' y' h3 h4 => ?_⟩
    cases i with
    | zero =>
      simp at h3 h4
      subst h3 h4
      exact g4.mono k1 (PlLe.refl _)
    | succ i => exact k5 i x' y' (by simpa using h3) (by simpa using h4)
end
end Go.Ab

/- Ab, part 16: a call, whichever; one operation of a region. -/
set_option autoImplicit false
set_option linter.unusedVariables false
namespace Go.Ab
section
variable {P : Program} {T : Nat → TI} {N : Nat}

def CallDid (P : Program) (T : Nat → TI) (N : Nat) (I : Imm) (ρ : Pl) (m : Id → Option Ob) (r : R) (run : World → Result Next) (w : World) : Prop :=
  ∃ f vs, run w = .ok (.enter f vs) w ∧ Calls P f vs w fun e w' => ∃ v I' ρ', e = .returned v ∧ Ev I ρ w I' ρ' w' ∧ RepV T N I' ρ' r.v v ∧ WRep T N I' ρ' (appM m r.d) w'

theorem run_call {a : Act} {o : Oper} {c : Call} {fo : Operand} {f : FuncId} {ys : Array Value} (hop : o.op = .call c) (hc : c.callee = .value fo) (hf : a.eval fo = .func (.func f) #[] ys) (hcl : callable P f) (w : World) :
    (execOp a.eval o).run P w = .ok (.enter f ((c.args.map a.eval) ++ ys)) w := by
  obtain ⟨fn, h1, h2, h3⟩ := hcl
  have h4 : fn.body.isNone = false := by
    cases hb : fn.body with
    | none => rw [hb] at h3; cases h3
    | some _ => rfl
  have h5 : ¬ fn.name = "runtime.NumGoroutine" := by simpa using h2
  have h6 : ¬ fn.body = none := by intro e; rw [e] at h4; cases h4
  simp [execOp, hop, resolve, hc, hf, Deferred.ofValue, invoke, callFunc, h1, h5, h6]

theorem Rep1.clo_inv {I : Imm} {ρ : Pl} {f : FuncId} {caps : List AV} {y : Value} (h : Rep1 T N I ρ (.clo f caps) y) : ∃ ys : Array Value, y = .func (.func f) #[] ys ∧ ys.size = caps.length ∧ ∀ (i : Nat) (c : AV), caps[i]? = some c → Rep T N I ρ c [ys.getD i undef] := by
  obtain ⟨cs, h1, h2⟩ := h
  cases h1 with
  | clo ys hl h => exact ⟨ys, h2, hl, h⟩
theorem Rep.one_packed {I : Imm} {ρ : Pl} {x : AV} {y : Value} (h : Rep T N I ρ x [y]) (hx : ∀ t n g, x ≠ .agg t n g) : Rep1 T N I ρ x y := by
  refine ⟨[y], h, ?_⟩
  unfold packV
  split
  · exact absurd rfl (hx _ _ _)
  · rfl

theorem args_rep {I : Imm} {ρ : Pl} {en : Entry} {st : St} {a : Act} {w : World} (hs : StRep T N en I ρ st a w) {G : D} (hG : G.tr) {c : Call} {l : List AV × Option Prop} (h : needs G st c.args.toList = some l) (hc : holdsC l.2) {caps : List AV} {ys : Array Value}
    (hl : ys.size = caps.length) (hcap : ∀ (i : Nat) (c : AV), caps[i]? = some c → Rep T N I ρ c [ys.getD i undef]) (hone : ∀ c ∈ caps, ∀ t n g, c ≠ .agg t n g) :
    ((c.args.map a.eval) ++ ys).toList.length = (l.1 ++ caps).length ∧ ∀ (i : Nat) (x : AV) (y : Value), (l.1 ++ caps)[i]? = some x → ((c.args.map a.eval) ++ ys).toList[i]? = some y → RepV T N I ρ x y := by
  obtain ⟨h1, h2⟩ := needs_rep hs hG h hc
  have hsz : (c.args.map a.eval).toList.length = l.1.length := by simp [h1]
  refine ⟨by simp [h1, hl], fun i x y hx hy => ?_⟩
  rw [Array.toList_append] at hy
  rcases Nat.lt_or_ge i l.1.length with hi | hi
  · rw [List.getElem?_append_left hi] at hx
    rw [List.getElem?_append_left (by omega)] at hy
    simp only [Array.toList_map, List.getElem?_map, Option.map_eq_some_iff] at hy
    obtain ⟨z, hz, rfl⟩ := hy
    exact h2 i z x hz hx
  · rw [List.getElem?_append_right hi] at hx
    rw [List.getElem?_append_right (by omega), hsz] at hy
    have := hcap _ _ hx
    have hyd : ys.getD (i - l.1.length) undef = y := by
      simp only [Array.getElem?_toList] at hy
      simp [hy]
    rw [hyd] at this
    exact .one (this.one_packed (hone _ (List.mem_of_getElem? hx)))

theorem oneA_spec {caps : List AV} (h : caps.all oneA = true) : ∀ c ∈ caps, ∀ t n g, c ≠ .agg t n g := by
  rintro c hc t n g rfl
  have := List.all_eq_true.1 h _ hc
  cases this
theorem all_isNone {m : Id → Option Ob} {l : List Id} (h : l.all (fun id => isNone (m id)) = true) : ∀ id ∈ l, m id = none := fun id hi => isNone_eq (List.all_eq_true.1 h id hi)

theorem evK_sound (hT : TOK P T N) {en : Entry} {I : Imm} {ρ : Pl} {st : St} {a : Act} {w : World} (hs : StRep T N en I ρ st a w) {G : D} (hG : G.tr) {gs : List CG} {o : Oper} {r : R × List CG}
    (h : evK T (AC P T N) st G gs o = some r) (hc : holdsC r.1.c) : CallDid P T N I ρ st.m r.1 (fun w => (execOp a.eval o).run P w) w := by
  have hw := hs.wr
  unfold evK at h
  split at h
  · rename_i c g gs' hop
    split at h
    · rename_i fo hcal
      simp only [Option.bind_eq_some_iff] at h
      obtain ⟨fa, h1, l, h2, h⟩ := h
      split at h
      · -- read alone
        rename_i f caps hfa hlent
        simp only [Option.bind_eq_some_iff] at h
        obtain ⟨fz, h3, h⟩ := h
        obtain ⟨hb, h⟩ := cond_some h
        cases h
        simp only [Bool.and_eq_true] at hb
        rw [holdsC_andC, holdsC_andC, holdsC_andC] at hc
        obtain ⟨k1, k2, k3, k4⟩ := hc
        have hac := under_tr hG k4
        have k3' : holdsC fz.2.1 := by
          revert k3
          cases fz.2.1 with
          | none => intro _; trivial
          | some q => intro k3; exact under_tr hG k3
        have hrf := need_rep hs hG h1 k1
        rw [hfa] at hrf
        obtain ⟨ys, e1, e2, e3⟩ := (hrf.rep1 (fun _ => by simp)).clo_inv
        obtain ⟨a1, a2⟩ := args_rep hs hG h2 k2 e2 e3 (oneA_spec hb.2)
        obtain ⟨z1, z2⟩ := frzL_sound hT hw _ _ fz a1 a2 h3 k3'
        refine ⟨f, _, run_call hop hcal e1 hac.1 w, ?_⟩
        have hcall := call_pure hT hw hac (vs := ((c.args.map a.eval) ++ ys).toList) (fz := fz.2.2.1) (by rw [z1]; exact a1) z2 hb.1.1 (fun hf => by
          have := hb.1.2
          rw [hf] at this
          simpa using this)
        simp only [Array.toArray_toList] at hcall
        refine hcall.mono ?_
        rintro e w' ⟨v, I', rfl, g1, g2, g3⟩
        exact ⟨v, I', ρ, rfl, g1, g2, g3⟩
      · -- objects are lent
        rename_i f caps hfa hlent
        cases hlk : isLook g with
        | true =>
          simp only [hlk, cond_true, Option.bind_eq_some_iff] at h
          obtain ⟨vw, h3, B, h4, h⟩ := h
          obtain ⟨hb, h⟩ := cond_some h
          cases h
          simp only [Bool.and_eq_true] at hb
          obtain ⟨⟨⟨b1, b2⟩, b3⟩, b5⟩ := hb
          rw [holdsC_andC, holdsC_andC, holdsC_andC] at hc
          obtain ⟨k1, k2, k3, k4, k5, k6, hac⟩ := hc
          have hrf := need_rep hs hG h1 k1
          rw [hfa] at hrf
          obtain ⟨ys, e1, e2, e3⟩ := (hrf.rep1 (fun _ => by simp)).clo_inv
          obtain ⟨a1, a2⟩ := args_rep hs hG h2 k2 e2 e3 (oneA_spec b2)
          have hd := distinct_nodup b3
          obtain ⟨I1, v1, v2, v3, v4, v5⟩ := viewL_sound hT hd _ _ vw hw a1 a2 h3 k3
          obtain ⟨gl, gg⟩ := gets_spec h4
          have hids : ∀ id ∈ g.ids, appM st.m vw.2.1 id ≠ none := fun id hi => by
            obtain ⟨j, hj⟩ := List.getElem?_of_mem hi
            obtain ⟨ob, _, h6⟩ := gg j id hj
            rw [h6]; simp
          refine ⟨f, _, run_call hop hcal e1 hac.1 w, ?_⟩
          have hcall := hac.2 I1 (lendP g.ids ρ) w ((c.args.map a.eval) ++ ys).toList (by rw [v4]; exact a1) v5 (wrep_lend v3 hd h4 k4)
          simp only [Array.toArray_toList] at hcall
          refine hcall.mono ?_
          rintro e w' ⟨v, I', ρ', rfl, g1, g2, g3⟩
          have hBl : (B.map (renO (sig g.ids 0))).length = g.ids.length := by rw [List.length_map, gl]
          obtain ⟨q1, q2, q3⟩ := wrep_back (news := []) v3 (by rw [List.append_nil]; exact hd) (fun id hi => by cases hi) (by rw [List.append_nil]; exact hBl) hids g1 g3 (by rw [hBl]; exact k5)
          rw [hBl] at q3
          simp only [List.append_nil] at q1 q2 q3
          rw [k6] at q2
          have hsame : appM (appM st.m vw.2.1) (g.ids.zip B) = appM st.m vw.2.1 := by
            funext id
            by_cases hi : id ∈ g.ids
            · obtain ⟨j, hj⟩ := List.getElem?_of_mem hi
              obtain ⟨ob, h5, h6⟩ := gg j id hj
              rw [appM_zip hd hj h5, h6]
            · exact appM_zip_not hi
          rw [hsame] at q2
          exact ⟨v, I', _, rfl, v2.trans q1, g2.ren q3 b5, q2⟩
        | false =>
          simp only [hlk, cond_false] at h
          simp only [Option.bind_eq_some_iff] at h
          obtain ⟨vw, h3, B, h4, h⟩ := h
          obtain ⟨hb, h⟩ := cond_some h
          cases h
          simp only [Bool.and_eq_true] at hb
          obtain ⟨⟨⟨⟨⟨b1, b2⟩, b3⟩, b4⟩, b5⟩, b6⟩ := hb
          rw [holdsC_andC, holdsC_andC, holdsC_andC] at hc
          obtain ⟨k1, k2, k3, k4, k5, hac⟩ := hc
          have hrf := need_rep hs hG h1 k1
          rw [hfa] at hrf
          obtain ⟨ys, e1, e2, e3⟩ := (hrf.rep1 (fun _ => by simp)).clo_inv
          obtain ⟨a1, a2⟩ := args_rep hs hG h2 k2 e2 e3 (oneA_spec b2)
          have hd := distinct_nodup b3
          obtain ⟨I1, v1, v2, v3, v4, v5⟩ := viewL_sound hT hd _ _ vw hw a1 a2 h3 k3
          have hnew := all_isNone b6
          obtain ⟨gl, gg⟩ := gets_spec h4
          have hids : ∀ id ∈ g.ids, appM st.m vw.2.1 id ≠ none := fun id hi => by
            obtain ⟨j, hj⟩ := List.getElem?_of_mem hi
            obtain ⟨ob, _, h6⟩ := gg j id hj
            rw [h6]; simp
          have hle : g.ids.length ≤ g.out.length := by simpa [Nat.ble_eq] using b4
          have hn : (g.ids ++ sites (o.dst.getD 0) 1 (g.out.length - g.ids.length)).Nodup := by
            rw [List.nodup_append]
            exact ⟨hd, sites_nodup _ _ _, fun x hx y hy e => by subst e; exact hids x hx (hnew x hy)⟩
          have hlen : g.out.length = (g.ids ++ sites (o.dst.getD 0) 1 (g.out.length - g.ids.length)).length := by
            rw [List.length_append, sites_length]; omega
          refine ⟨f, _, run_call hop hcal e1 hac.1 w, ?_⟩
          have hcall := hac.2 I1 (lendP g.ids ρ) w ((c.args.map a.eval) ++ ys).toList (by rw [v4]; exact a1) v5 (wrep_lend v3 hd h4 k4)
          simp only [Array.toArray_toList] at hcall
          refine hcall.mono ?_
          rintro e w' ⟨v, I', ρ', rfl, g1, g2, g3⟩
          obtain ⟨q1, q2, q3⟩ := wrep_back v3 hn hnew hlen hids g1 g3 k5
          refine ⟨v, I', _, rfl, v2.trans q1, g2.ren q3 b5, ?_⟩
          rw [appM_append]
          exact q2
      · cases h
    · cases h
  · cases h
end
end Go.Ab

/- Ab, part 16b: slices of slices. -/
set_option autoImplicit false
set_option linter.unusedVariables false
namespace Go.Ab
section
variable {P : Program} {T : Nat → TI} {N : Nat}

def IsB (x : Option Int) (y : Option Value) : Prop := match x, y with
  | none, none => True
  | some j, some v => ∃ k, v = .int k j
  | _, _ => False
theorem optI_sound {e : Entry} {I : Imm} {ρ : Pl} {st : St} {a : Act} {w : World} (hs : StRep T N e I ρ st a w) {G : D} (hG : G.tr) {x : Option Operand} {r : Option Int × Option Prop} (h : optI G st x = some r) (hc : holdsC r.2) : IsB r.1 (x.map a.eval) := by
  cases x with
  | none => cases h; trivial
  | some x =>
    simp only [optI, Option.bind_eq_some_iff, Option.some.injEq] at h
    obtain ⟨b, h1, j, h2, rfl⟩ := h
    have hr := need_rep hs hG h1 hc
    unfold intA at h2
    split at h2
    · rename_i k j' hb
      cases h2
      rw [hb] at hr
      exact ⟨k, hr.v.1⟩
    · cases h2
theorem run_bound {k : IntKind} {j : Int} {y : Nat} {c : BoundsCode} (w : World) (h : 0 ≤ j ∧ j ≤ y) : (Instr.sliceBound (.int k j) y c).run P w = .ok j.toNat w := by
  simp [Instr.sliceBound, asIntOf, h]
def roomA (mx : Option Int) (cap : Nat) : Nat := match mx with | some q => q.toNat | none => cap
theorem roomA_le {lo hi mx : Option Int} {len cap : Nat} (hlc : len ≤ cap) (h : slOk (slB lo hi mx len) len) : roomA mx cap ≤ cap ∧ (hi.getD len).toNat ≤ roomA mx cap := by
  simp only [slOk, slB] at h
  cases mx with
  | none => simp only [Option.getD_none] at h; simp only [roomA]; omega
  | some q => simp only [Option.getD_some] at h; simp only [roomA]; omega
theorem run_bounds {b : Bool} {len cap : Nat} (hlc : len ≤ cap) {lo hi mx : Option Int} {lo' hi' mx' : Option Value} (hl : IsB lo lo') (hh : IsB hi hi') (hm : IsB mx mx') (hno : (isNo mx || !isNo hi) = true) (hok : slOk (slB lo hi mx len) len) (w : World) :
    (Instr.sliceBounds b len cap lo' hi' mx').run P w = .ok ((lo.getD 0).toNat, (hi.getD len).toNat, roomA mx cap) w := by
  simp only [slOk, slB] at hok
  obtain ⟨h1, h2, h3, h4⟩ := hok
  cases mx with
  | none =>
    cases mx' with
    | some v => exact hm.elim
    | none =>
      simp only [Option.getD_none] at h3 h4
      cases hi with
      | none =>
        cases hi' with
        | some v => exact hh.elim
        | none =>
          cases lo with
          | none =>
            cases lo' with
            | some v => exact hl.elim
            | none => simp [roomA, Instr.sliceBounds]
          | some l =>
            cases lo' with
            | none => exact hl.elim
            | some v =>
              obtain ⟨k, rfl⟩ := hl
              simp only [Option.getD_some, Option.getD_none] at h1 h2
              have hb := run_bound (P := P) (k := k) (c := .sliceB) w (y := len) ⟨h1, h2⟩
              simp [roomA, Instr.sliceBounds, hb]
      | some hv =>
        cases hi' with
        | none => exact hh.elim
        | some v =>
          obtain ⟨k, rfl⟩ := hh
          simp only [Option.getD_some] at h2 h3
          have hb : ∀ c, (Instr.sliceBound (.int k hv) cap c).run P w = .ok hv.toNat w := fun c => run_bound w ⟨by omega, by omega⟩
          cases lo with
          | none =>
            cases lo' with
            | some v => exact hl.elim
            | none => simp [roomA, Instr.sliceBounds, hb]
          | some l =>
            cases lo' with
            | none => exact hl.elim
            | some v =>
              obtain ⟨k', rfl⟩ := hl
              simp only [Option.getD_some] at h1 h2
              have hb' := run_bound (P := P) (k := k') (c := .sliceB) w (y := hv.toNat) (j := l) ⟨h1, by omega⟩
              simp [roomA, Instr.sliceBounds, hb, hb']
  | some q =>
    cases mx' with
    | none => exact hm.elim
    | some v =>
      obtain ⟨km, rfl⟩ := hm
      simp only [Option.getD_some] at h3 h4
      cases hi with
      | none => cases hno
      | some hv =>
        cases hi' with
        | none => exact hh.elim
        | some v =>
          obtain ⟨k, rfl⟩ := hh
          simp only [Option.getD_some] at h2 h3
          have h0 : 0 ≤ lo.getD 0 := h1
          have hm' : ∀ c, (Instr.sliceBound (.int km q) cap c).run P w = .ok q.toNat w := fun c => run_bound w ⟨by omega, by omega⟩
          have hb : ∀ c, (Instr.sliceBound (.int k hv) q.toNat c).run P w = .ok hv.toNat w := fun c => run_bound w ⟨by omega, by omega⟩
          cases lo with
          | none =>
            cases lo' with
            | some v => exact hl.elim
            | none => simp [roomA, Instr.sliceBounds, hb, hm']
          | some l =>
            cases lo' with
            | none => exact hl.elim
            | some v =>
              obtain ⟨k', rfl⟩ := hl
              simp only [Option.getD_some] at h1 h2
              have hb' : ∀ c, (Instr.sliceBound (.int k' l) hv.toNat c).run P w = .ok l.toNat w := fun c => run_bound w ⟨h1, by omega⟩
              simp [roomA, Instr.sliceBounds, hb, hb', hm']

theorem run_slice_slice {t e : Nat} (hT : TOK P T N) (hk : (T t).kind = .slice e) {b : Option Addr} {len cap : Nat} (hlc : len ≤ cap) {lo hi mx : Option Int} {lo' hi' mx' : Option Value} (hl : IsB lo lo') (hh : IsB hi hi') (hm : IsB mx mx') (hno : (isNo mx || !isNo hi) = true) (hok : slOk (slB lo hi mx len) len) (w : World) :
    (Instr.sliceAt t (.slice b len cap) lo' hi' mx').run P w = .ok (.slice (if roomA mx cap = (lo.getD 0).toNat then b else b.map (·.add ((lo.getD 0).toNat * (T e).size))) ((hi.getD len).toNat - (lo.getD 0).toNat) (roomA mx cap - (lo.getD 0).toNat)) w := by
  have h1 := run_bounds (P := P) (b := true) hlc hl hh hm hno hok w
  simp [Instr.sliceAt, (hT.sli hk).2, Instr.slice, h1, hT.runSize (hT.slice t e hk)]
theorem run_slice_array {t k e : Nat} (hT : TOK P T N) (hk : (T t).kind = .array k e) {a : Addr} {lo hi mx : Option Int} {lo' hi' mx' : Option Value} (hl : IsB lo lo') (hh : IsB hi hi') (hm : IsB mx mx') (hno : (isNo mx || !isNo hi) = true) (hok : slOk (slB lo hi mx k) k) (w : World) :
    (Instr.sliceAt t (.pointer (some a)) lo' hi' mx').run P w = .ok (.slice (some (if roomA mx k = (lo.getD 0).toNat then a else a.add ((lo.getD 0).toNat * (T e).size))) ((hi.getD k).toNat - (lo.getD 0).toNat) (roomA mx k - (lo.getD 0).toNat)) w := by
  have h1 := run_bounds (P := P) (b := false) (Nat.le_refl k) hl hh hm hno hok w
  simp [Instr.sliceAt, hT.arr hk, Instr.sureAddr, h1, hT.runSize (hT.array t k e hk).1]
theorem slOk_zero {lo hi mx : Option Int} (h : slOk (slB lo hi mx ((0 : Nat) : Int)) ((0 : Nat) : Int)) : (lo.getD 0).toNat = 0 ∧ (hi.getD ((0 : Nat) : Int)).toNat = 0 ∧ roomA mx 0 = 0 := by
  have := roomA_le (Nat.le_refl 0) h
  simp only [slOk, slB] at h
  omega

theorem slA_sound (hT : TOK P T N) {I : Imm} {ρ : Pl} {m : Id → Option Ob} {w : World} (hw : WRep T N I ρ m w) {x : AV} {y : Value} {t : Nat} {r : AV × List Id × Prop} (hx : Rep1 T N I ρ x y) {lo hi mx : Option Int} {lo' hi' mx' : Option Value} (hl : IsB lo lo') (hh : IsB hi hi') (hm : IsB mx mx')
    (hno : (isNo mx || !isNo hi) = true) (h : slA T t lo hi mx m x = some r) (hc : r.2.2) (hnn : holdsC (nOf m x)) :
    ∃ u, (Instr.sliceAt t y lo' hi' mx').run P w = .ok u w ∧ RepV T N I ρ r.1 u := by
  unfold slA at h
  split at h
  · -- a row
    rename_i e full len g
    split at h
    · rename_i u hk
      obtain ⟨hb, h⟩ := cond_some h
      cases h
      have e1 := Nat.eq_of_beq_eq_true hb
      subst e1
      simp only at hc
      obtain ⟨hok, hcap⟩ := hc
      have hok' := hok
      simp only [slOk, slB] at hok'
      obtain ⟨o1, o2, o3, o4⟩ := hok'
      rcases Rep.row_inv hx with ⟨⟨ad, rfl⟩, rfl, he⟩ | ⟨b, off, cap, segs, he, hlc, hcm, hfull, h1, h2, h3, h4, rfl⟩
      · refine ⟨_, run_slice_slice hT hk (Nat.le_refl 0) hl hh hm hno hok w, ?_⟩
        obtain ⟨z1, z2, z3⟩ := slOk_zero hok
        have z4 : ((slB lo hi mx ((0 : Nat) : Int)).2.1 - (slB lo hi mx ((0 : Nat) : Int)).1).toNat = 0 := by simp only [slB]; omega
        simp only [z1, z2, z3, z4, Nat.sub_self, if_true]
        exact .one ⟨[_], .row0 he, rfl⟩
      · refine ⟨_, run_slice_slice hT hk hlc hl hh hm hno hok w, ?_⟩
        obtain ⟨hMle, hhM⟩ := roomA_le hlc hok
        simp only [slB]
        have hlen : ((hi.getD (len : Int)) - (lo.getD 0)).toNat = (hi.getD (len : Int)).toNat - (lo.getD 0).toNat := by omega
        rw [hlen]
        have hfl : fullS hi mx full = true → roomA mx cap - (lo.getD 0).toNat = (hi.getD (len : Int)).toNat - (lo.getD 0).toNat := by
          intro hf
          cases mx with
          | some q => simp only [capEq] at hcap; simp only [roomA, hcap]
          | none =>
            cases hi with
            | some _ => cases hf
            | none =>
              simp only [fullS] at hf
              simp [roomA, hfull hf]
        by_cases hMl : roomA mx cap = (lo.getD 0).toNat
        · rw [if_pos hMl]
          exact .one ⟨[_], .row b off _ (fun j => segs ((lo.getD 0).toNat + j)) he (by omega) (by omega) hfl (fun i hi' => by omega) (fun i hi' => by omega) (fun i hi' => by omega) (fun i hi' => by omega), rfl⟩
        · rw [if_neg hMl]
          simp only [Option.map_some, add_none]
          refine .one ⟨[_], .row b (off + (lo.getD 0).toNat * (T e).size) _ (fun j => segs ((lo.getD 0).toNat + j)) he (by omega) (by omega) hfl (fun i hi' => h1 _ (by omega)) (fun i hi' => h2 _ (by omega)) (fun i hi' => h3 _ (by omega)) (fun i hi' o ho => ?_), rfl⟩
          rw [← h4 _ (by omega) o ho]
          congr 1
          rw [Nat.add_mul]; omega
    · cases h
  · -- a slice of ours
    rename_i id n i len cap
    split at h
    · rename_i B u hmB hk
      have hb := (cond_some h).1
      replace h := (cond_some h).2
      have e2 := Nat.eq_of_beq_eq_true hb
      have e1 : B.n = n := by simpa [nOf, nC, hmB, holdsC] using hnn
      have key : ∀ (cap' : Option Nat), slOk (slB lo hi mx len) len → (lo.getD 0 = 0 ∨ (mx = none ∧ lo.getD 0 < (len : Int))) →
          (∀ c : Nat, (mx = none → (cap' = none → cap = none) ∧ ∀ k, cap' = some k → ∃ c0, cap = some c0 ∧ k = c0 - (lo.getD 0).toNat) ∧ (∀ q : Int, mx = some q → cap' = some (q.toNat - (lo.getD 0).toNat))) →
          ∃ u, (Instr.sliceAt t y lo' hi' mx').run P w = .ok u w ∧ RepV T N I ρ (.own id n (i + (lo.getD 0).toNat) ((hi.getD len).toNat - (lo.getD 0).toNat) cap') u := by
        intro cap' hok hlo hcap'
        have hok' := hok
        simp only [slOk, slB] at hok'
        obtain ⟨o1, o2, o3, o4⟩ := hok'
        rcases Rep.own_inv hx with ⟨rfl, rfl, rfl, rfl⟩ | ⟨q, hq, hn, hx⟩
        · refine ⟨_, run_slice_slice hT hk (Nat.le_refl 0) hl hh hm hno hok w, ?_⟩
          obtain ⟨z1, z2, z3⟩ := slOk_zero hok
          simp only [z1, z2, z3, Nat.sub_self, if_true, Nat.add_zero]
          exact .one ⟨[_], .own0, rfl⟩
        · obtain ⟨q', cs, c1, c2, c3, c4, _⟩ := hw.cellsAt hmB hq
          rw [hq] at c1; cases c1
          obtain ⟨c, rfl, g1, g2, g3, g4, g5, g6⟩ := hx (by rw [c3, e1])
          obtain ⟨hMle, hhM⟩ := roomA_le g1 hok
          refine ⟨_, run_slice_slice hT hk g1 hl hh hm hno hok w, ?_⟩
          have haddr : (if roomA mx c = (lo.getD 0).toNat then some (⟨q.b, i * (T q.ty).size, none⟩ : Addr) else (some (⟨q.b, i * (T q.ty).size, none⟩ : Addr)).map (·.add ((lo.getD 0).toNat * (T u).size))) = some ⟨q.b, (i + (lo.getD 0).toNat) * (T q.ty).size, none⟩ := by
            have hz : u = q.ty := by rw [c2, e2]
            subst hz
            split
            · rename_i hr
              rcases hlo with h0 | ⟨h0, h1⟩
              · simp [h0]
              · subst h0; simp only [roomA] at hr; omega
            · simp only [Option.map_some, add_none, Nat.add_mul]
          rw [haddr]
          refine .one ⟨[_], .own q hq hn rfl (fun _ => ⟨roomA mx c - (lo.getD 0).toNat, rfl, by omega, by omega, by omega, ?_, ?_, ?_⟩), rfl⟩
          · refine Nat.le_trans (Nat.mul_le_mul_right _ ?_) g4
            omega
          · intro hc0
            obtain ⟨k1, k2⟩ := hcap' 0
            cases mx with
            | some q => rw [k2 q rfl] at hc0; cases hc0
            | none =>
              have := g5 ((k1 rfl).1 hc0)
              simp only [roomA] at hhM ⊢
              rw [← this]
              congr 1
              omega
          · intro k hk0
            obtain ⟨k1, k2⟩ := hcap' 0
            cases mx with
            | some q => rw [k2 q rfl] at hk0; cases hk0; rfl
            | none =>
              obtain ⟨c0, h1, h2⟩ := (k1 rfl).2 k hk0
              simp only [roomA]
              rw [g6 c0 h1, h2]
      split at h
      · cases h
        obtain ⟨u', h1, h2⟩ := key cap hc (.inl rfl) (fun _ => ⟨fun _ => ⟨fun h => h, fun k hk => ⟨k, hk, by simp⟩⟩, fun q h => by cases h⟩)
        exact ⟨u', h1, by simpa using h2⟩
      · rename_i q
        cases h
        obtain ⟨u', h1, h2⟩ := key (some q.toNat) hc (.inl rfl) (fun _ => ⟨fun h => (by cases h), fun q' h => by cases h; simp⟩)
        exact ⟨u', h1, by simpa using h2⟩
      · rename_i l
        cases h
        obtain ⟨u', h1, h2⟩ := key (cap.map (· - l.toNat)) hc.1 (.inr ⟨rfl, by simpa using hc.2⟩) (fun _ => ⟨fun _ => ⟨fun h => by simpa using h, fun k hk => by
          simp only [Option.map_eq_some_iff] at hk
          obtain ⟨c0, h1, h2⟩ := hk
          exact ⟨c0, h1, by simp [← h2]⟩⟩, fun q h => by cases h⟩)
        exact ⟨u', h1, by simpa [Nat.add_comm l.toNat i] using h2⟩
      · cases h
    · cases h
  · -- an array of ours
    rename_i id n i p
    split at h
    · rename_i B k e hmB hk
      obtain ⟨hb, h⟩ := cond_some h
      cases h
      have e1 : B.n = n := by simpa [nOf, nC, hmB, holdsC] using hnn
      have e2 := isTy_eq hb
      obtain ⟨q, hq, hn, hx⟩ := Rep.ptr_inv hx
      obtain ⟨q', cs, c1, c2, c3, c4, _⟩ := hw.cellsAt hmB hq
      rw [hq] at c1; cases c1
      obtain ⟨hi', hpi, rfl⟩ := hx (by rw [c3, e1])
      obtain ⟨hok, hlo, hk63⟩ := hc
      refine ⟨_, run_slice_array hT hk hl hh hm hno hok w, ?_⟩
      obtain ⟨hMle, hhM⟩ := roomA_le (Nat.le_refl k) hok
      have hok' := hok
      simp only [slOk, slB] at hok' hlo ⊢
      obtain ⟨o1, o2, o3, o4⟩ := hok'
      have hroom : roomA mx k = (mx.getD (k : Int)).toNat := by cases mx <;> simp [roomA]
      have hlen : ((hi.getD (k : Int)) - (lo.getD 0)).toNat = (hi.getD (k : Int)).toNat - (lo.getD 0).toNat := by omega
      rw [hlen, ← hroom]
      have haddr : (if roomA mx k = (lo.getD 0).toNat then (⟨q.b, i * (T q.ty).size + pathOff T q.ty p, none⟩ : Addr) else (⟨q.b, i * (T q.ty).size + pathOff T q.ty p, none⟩ : Addr).add ((lo.getD 0).toNat * (T e).size)) = ⟨q.b, i * (T q.ty).size + pathOff T q.ty p + (lo.getD 0).toNat * (T e).size, none⟩ := by
        split
        · rename_i hr
          rcases hlo with h0 | h0
          · omega
          · simp [h0]
        · simp only [add_none]
      rw [haddr]
      exact .one ⟨[_], .arr q hq hn rfl (fun _ => ⟨hi', t, k, e, by rw [c2]; exact e2, hpi, hk, by omega, by omega, by omega, rfl⟩), rfl⟩
    · cases h
  · -- an array that is known
    rename_i u x'
    split at h
    · rename_i k e hk
      obtain ⟨hb, h⟩ := cond_some h
      cases h
      have e1 := Nat.eq_of_beq_eq_true hb
      subst e1
      obtain ⟨b, off, seg, ht, k1, k2, k3, k4, rfl⟩ := Rep.rp_inv hx
      obtain ⟨hok, hk63⟩ := hc
      refine ⟨_, run_slice_array hT hk hl hh hm hno hok w, ?_⟩
      obtain ⟨hMle, hhM⟩ := roomA_le (Nat.le_refl k) hok
      have hok' := hok
      simp only [slOk, slB] at hok' ⊢
      obtain ⟨o1, o2, o3, o4⟩ := hok'
      have hlen : ((hi.getD (k : Int)) - (lo.getD 0)).toNat = (hi.getD (k : Int)).toNat - (lo.getD 0).toNat := by omega
      rw [hlen]
      have hfl : (isNo hi && isNo mx) = true → roomA mx k - (lo.getD 0).toNat = (hi.getD (k : Int)).toNat - (lo.getD 0).toNat := by
        intro hf
        cases hi with
        | some _ => cases hf
        | none =>
          cases mx with
          | some _ => cases hf
          | none => simp [roomA]
      have hel : ∀ j, j < k → ∃ sg, Rep T N I noPl (x'.at [j]) sg ∧ fit T e (x'.at [j]) = true ∧ sg.length = (T e).size ∧ ∀ o, o < (T e).size → seg[j * (T e).size + o]? = sg[o]? := by
        intro j hj
        have hpt : pathTy T u [j] = some e := by simp [pathTy, hk]
        have hpi : pathIn T u [j] := by simp [pathIn, hk, hj]
        have hpo : pathOff T u [j] = j * (T e).size := by simp [pathOff, hk]
        obtain ⟨sg, r1, r2, r3, r4⟩ := k1.at [j] k2 k3 hpt hpi
        exact ⟨sg, r1, r2, r3, fun o ho => by rw [← r4 o ho, hpo]⟩
      have hex : ∀ j, ∃ sg, j < k → Rep T N I noPl (x'.at [j]) sg ∧ fit T e (x'.at [j]) = true ∧ sg.length = (T e).size ∧ ∀ o, o < (T e).size → seg[j * (T e).size + o]? = sg[o]? := by
        intro j
        by_cases hj : j < k
        · obtain ⟨sg, h⟩ := hel j hj; exact ⟨sg, fun _ => h⟩
        · exact ⟨[], fun h => absurd h hj⟩
      have hsel := fun j => Classical.choose_spec (hex j)
      have hN := (hT.array u k e hk).1
      have hsz : seg.length = k * (T e).size := by rw [k3]; exact (hT.array u k e hk).2
      by_cases hMl : roomA mx k = (lo.getD 0).toNat
      · rw [if_pos hMl]
        exact .one ⟨[_], .row b off _ (fun j => []) hN (by omega) (by omega) hfl (fun i hi' => by omega) (fun i hi' => by omega) (fun i hi' => by omega) (fun i hi' => by omega), rfl⟩
      · rw [if_neg hMl, add_none]
        refine .one ⟨[_], .row b (off + (lo.getD 0).toNat * (T e).size) _ (fun j => Classical.choose (hex ((lo.getD 0).toNat + j))) hN (by omega) (by omega) hfl (fun j hj => (hsel _ (by omega)).1) (fun j hj => (hsel _ (by omega)).2.1) (fun j hj => (hsel _ (by omega)).2.2.1) (fun j hj o ho => ?_), rfl⟩
        have h4 := (hsel ((lo.getD 0).toNat + j) (by omega)).2.2.2 o ho
        rw [← h4]
        have h5 : ((lo.getD 0).toNat + j + 1) * (T e).size ≤ k * (T e).size := Nat.mul_le_mul_right _ (by omega)
        rw [Nat.succ_mul, ← hsz] at h5
        have h6 := k4 (((lo.getD 0).toNat + j) * (T e).size + o) (by rw [← k3]; omega)
        rw [← h6]
        congr 1
        rw [Nat.add_mul]; omega
    · cases h
  · cases h
end
end Go.Ab

/- Ab, part 16c: copies. -/
set_option autoImplicit false
set_option linter.unusedVariables false
namespace Go.Ab
section
variable {P : Program} {T : Nat → TI} {N : Nat}

def SrcC (P : Program) (sz n : Nat) (news : List Value) (y : Value) (w : World) : Prop :=
  (Builtin.lenOf y).run P w = .ok n w ∧ ∀ k, k ≤ n → (Builtin.firstCells sz k y).run P w = .ok (news.take (k * sz)).toArray w
theorem srcC_of {a : Addr} {n c sz : Nat} {y : Value} {news : List Value} {w : World} (h : IsSrc a n c y) (hl : news.length = n * sz) (hn : ∀ (j : Nat) (u : Value), news[j]? = some u → w.cell? (a.add j) = some u) : SrcC P sz n news y w := by
  rcases h with rfl | ⟨rfl, rfl⟩
  · refine ⟨by simp [Builtin.lenOf], fun k hk => ?_⟩
    refine run_firstCells_some (P := P) w sz k a n c (news.take (k * sz)) ?_ (fun j v hv => hn j v ?_)
    · rw [List.length_take, hl]
      exact Nat.min_eq_left (Nat.mul_le_mul_right _ hk)
    · rw [List.getElem?_take] at hv
      split at hv
      · exact hv
      · cases hv
  · refine ⟨by simp [Builtin.lenOf], fun k hk => ?_⟩
    have : k = 0 := by omega
    subst this
    simp [run_firstCells_none]

theorem srcC_sound (hT : TOK P T N) {I : Imm} {ρ : Pl} {m : Id → Option Ob} {w : World} (hw : WRep T N I ρ m w) {x : AV} {y : Value} {e : Nat} (he : 0 < (T e).size) {r : Nat × (Nat → AV) × List Id} (hx : Rep1 T N I ρ x y) (h : srcC T m e x = some r) (hnn : holdsC (nOf m x)) :
    ∃ news : List Value, SrcC P (T e).size r.1 news y w ∧ news.length = r.1 * (T e).size ∧ (∀ u ∈ news, u.oneCell' = true) ∧
      ∀ i, i < r.1 → ∃ seg, Rep T N I ρ (r.2.1 i) seg ∧ fit T e (r.2.1 i) = true ∧ seg.length = (T e).size ∧ ∀ o, o < (T e).size → news[i * (T e).size + o]? = seg[o]? := by
  unfold srcC at h
  split at h
  · rename_i id n i p lo len hi
    split at h
    · rename_i B hm
      obtain ⟨hb, h⟩ := cond_some h
      cases h
      have he' := isTy_eq hb
      have e1 : B.n = n := by simpa [nOf, nC, hm, holdsC] using hnn
      obtain ⟨q, hq, hn, hx⟩ := Rep.arr_inv hx
      obtain ⟨q', cs, c1, c2, c3, c4, c5, c6, c7, c8, c9, c10⟩ := hw.cellsAt hm hq
      rw [hq] at c1; cases c1
      obtain ⟨hi', ta, ka, ea, g1, g2, g3, g4, g5, g6, rfl⟩ := hx (by rw [c3, e1])
      rw [← c2, pathTy_snoc p g1] at he'
      have hea : ea = e := by simpa [pathTy, g3] using he'
      subst hea
      have hex : ∀ k, ∃ seg, k < len → Rep T N I ρ (((B.get i).at p).at [lo + k]) seg ∧ fit T ea (((B.get i).at p).at [lo + k]) = true ∧ seg.length = (T ea).size ∧
          ∀ o, o < (T ea).size → w.cell? ⟨q.b, i * (T q.ty).size + pathOff T q.ty p + lo * (T ea).size + (k * (T ea).size + o), none⟩ = seg[o]? := by
        intro k
        by_cases hk : k < len
        · obtain ⟨seg, s1, s2, s3, s4⟩ := ptr_cells hw hm hq (i := i) (p := p ++ [lo + k]) (t := ea) (by rw [e1]; exact hi') (by rw [← c2, pathTy_snoc p g1]; simp [pathTy, g3]) (by rw [← c2]; exact pathIn_snoc p g1 g2 (by simp [pathIn, g3]; omega))
          rw [at_snoc] at s1 s2
          refine ⟨seg, fun _ => ⟨s1, s2, s3, fun o ho => ?_⟩⟩
          rw [← s4 o ho, pathOff_snoc p g1]
          congr 2
          simp only [pathOff, g3, Nat.add_mul]
          omega
        · exact ⟨[], fun h => absurd h hk⟩
      have hsel := fun k => Classical.choose_spec (hex k)
      generalize hsg : (fun k => Classical.choose (hex k)) = segs at hsel
      have hseg : ∀ k, k < len → Rep T N I ρ (((B.get i).at p).at [lo + k]) (segs k) ∧ fit T ea (((B.get i).at p).at [lo + k]) = true ∧ (segs k).length = (T ea).size ∧
          ∀ o, o < (T ea).size → w.cell? ⟨q.b, i * (T q.ty).size + pathOff T q.ty p + lo * (T ea).size + (k * (T ea).size + o), none⟩ = (segs k)[o]? := by
        intro k hk
        have h1 := hsel k hk
        rw [← hsg]
        exact h1
      have hsz : ∀ k, k < len → (segs k).length = (T ea).size := fun k hk => (hseg k hk).2.2.1
      refine ⟨(List.range len).flatMap segs, srcC_of (.inl rfl) (segs_const segs hsz) ?_, segs_const segs hsz, ?_, fun k hk => ⟨segs k, (hseg k hk).1, (hseg k hk).2.1, hsz k hk, fun o ho => segs_const_get segs hsz hk ho⟩⟩
      · intro j v hv
        have hj : j < len * (T ea).size := by rw [← segs_const segs hsz]; exact (List.getElem?_eq_some_iff.1 hv).1
        rw [segs_const_at segs he hsz hj] at hv
        rw [add_none]
        have hk := (hseg (j / (T ea).size) (div_lt he hj)).2.2.2 (j % (T ea).size) (Nat.mod_lt _ he)
        rw [hv, show j / (T ea).size * (T ea).size + j % (T ea).size = j from by rw [Nat.mul_comm]; exact Nat.div_add_mod j _] at hk
        exact hk
      · intro v hv
        simp only [List.mem_flatMap, List.mem_range] at hv
        obtain ⟨k, hk, hv⟩ := hv
        exact (hseg k hk).1.cells_one v hv
    · cases h
  · obtain ⟨a, c, news, h1, h2, h3, h4, h5, h6⟩ := srcA_sound0 (P := P) hT hw he hx h hnn
    exact ⟨news, srcC_of h1 h2 h3, h2, h4, h6⟩

theorem store_world (hT : TOK P T N) {I : Imm} {ρ : Pl} {m : Id → Option Ob} {w : World} (hw : WRep T N I ρ m w) {id : Id} {B : Blk} {i : Nat} {p : List Nat} {t : Nat} {y : AV} {q : Place} {sy : List Value} {cs : Array Value}
    (hm : m id = some (.cells B)) (hq : ρ id = some q) (hi : i < B.n) (hpt : pathTy T B.ty p = some t) (hpi : pathIn T B.ty p) (hfz : B.fz ≤ i)
    (hy : Rep T N I ρ y sy) (hfy : fit T t y = true) (hly : sy.length = (T t).size) (hcs : w.heap[q.b]? = some (.cells cs B.ty (0, 0))) :
    ∃ I' ρ', Ev I ρ w I' ρ' (w.setRow q.b (cs.toList.take (i * (T B.ty).size + pathOff T B.ty p) ++ sy ++ cs.toList.drop (i * (T B.ty).size + pathOff T B.ty p + sy.length)).toArray) ∧
      WRep T N I' ρ' (setM m id (.cells { B with get := fun j => bif Nat.beq j i then (B.get i).put p y else B.get j })) (w.setRow q.b (cs.toList.take (i * (T B.ty).size + pathOff T B.ty p) ++ sy ++ cs.toList.drop (i * (T B.ty).size + pathOff T B.ty p + sy.length)).toArray) := by
  obtain ⟨nx, w', I', ρ', h1, _, h3, h4⟩ := did_store (P := P) (o := ⟨none, .move (.const undef), 0, "", #[], none⟩) (c := none) (f := []) hT hw hm hq hi hpt hpi hfz hy hfy hly rfl
    (run := fun _ => .ok .skip (w.setRow q.b (cs.toList.take (i * (T B.ty).size + pathOff T B.ty p) ++ sy ++ cs.toList.drop (i * (T B.ty).size + pathOff T B.ty p + sy.length)).toArray)) (fun ds hds _ => by rw [hcs] at hds; cases hds; rfl)
  simp only [Result.ok.injEq] at h1
  obtain ⟨_, rfl⟩ := h1
  exact ⟨I', ρ', h3, by simpa [appM] using h4⟩

theorem splice_eq {es lo cnt k A : Nat} (hes : 0 < es) {cs news : List Value} {segs olds : Nat → List Value} (hA : A + k * es ≤ cs.length) (hk : lo + cnt ≤ k) (hnl : cnt * es ≤ news.length)
    (hl : ∀ j, j < k → (segs j).length = es) (hnew : ∀ j, j < k → lo ≤ j → j < lo + cnt → ∀ o, o < es → (segs j)[o]? = news[(j - lo) * es + o]?) (hold : ∀ j, j < k → (j < lo ∨ lo + cnt ≤ j) → ∀ o, o < es → (segs j)[o]? = cs[A + (j * es + o)]?) :
    cs.take A ++ (List.range k).flatMap segs ++ cs.drop (A + ((List.range k).flatMap segs).length) = cs.take (A + lo * es) ++ news.take (cnt * es) ++ cs.drop (A + lo * es + (news.take (cnt * es)).length) := by
  have hsl := segs_const segs hl
  have hlk : (lo + cnt) * es ≤ k * es := Nat.mul_le_mul_right _ hk
  rw [Nat.add_mul] at hlk
  have hnt : (news.take (cnt * es)).length = cnt * es := by rw [List.length_take]; omega
  have ht1 : (cs.take A).length = A := by rw [List.length_take]; omega
  have ht2 : (cs.take (A + lo * es)).length = A + lo * es := by rw [List.length_take]; omega
  apply List.ext_getElem?
  intro z
  rw [hsl, hnt]
  rcases Nat.lt_or_ge z A with hz | hz
  · rw [List.append_assoc, List.getElem?_append_left (by omega), List.append_assoc, List.getElem?_append_left (by omega), List.getElem?_take, List.getElem?_take, if_pos hz, if_pos (by omega)]
  · rcases Nat.lt_or_ge z (A + k * es) with hz2 | hz2
    · rw [List.append_assoc, List.getElem?_append_right (by omega), ht1, List.getElem?_append_left (by rw [hsl]; omega)]
      have hjk : (z - A) / es < k := div_lt hes (by omega)
      have ho : (z - A) % es < es := Nat.mod_lt _ hes
      have hd : (z - A) / es * es + (z - A) % es = z - A := by rw [Nat.mul_comm]; exact Nat.div_add_mod _ _
      rw [segs_const_at segs hes hl (by omega)]
      by_cases hin : lo ≤ (z - A) / es ∧ (z - A) / es < lo + cnt
      · have m1 : lo * es ≤ (z - A) / es * es := Nat.mul_le_mul_right _ hin.1
        have m2 : ((z - A) / es + 1) * es ≤ (lo + cnt) * es := Nat.mul_le_mul_right _ hin.2
        rw [Nat.add_mul, Nat.add_mul, Nat.one_mul] at m2
        rw [hnew _ hjk hin.1 hin.2 _ ho, List.append_assoc, List.getElem?_append_right (by omega), ht2, List.getElem?_append_left (by omega), List.getElem?_take, if_pos (by omega)]
        congr 1
        rw [Nat.sub_mul]; omega
      · have hout : (z - A) / es < lo ∨ lo + cnt ≤ (z - A) / es := by omega
        rw [hold _ hjk hout _ ho]
        rcases hout with h | h
        · have m1 : ((z - A) / es + 1) * es ≤ lo * es := Nat.mul_le_mul_right _ h
          rw [Nat.add_mul, Nat.one_mul] at m1
          rw [List.append_assoc, List.getElem?_append_left (by omega), List.getElem?_take, if_pos (by omega)]
          congr 1; omega
        · have m1 : (lo + cnt) * es ≤ (z - A) / es * es := Nat.mul_le_mul_right _ h
          rw [Nat.add_mul] at m1
          rw [List.getElem?_append_right (by rw [List.length_append]; omega), List.length_append, ht2, hnt, List.getElem?_drop]
          congr 1; omega
    · rw [List.getElem?_append_right (by rw [List.length_append]; omega), List.length_append, ht1, hsl, List.getElem?_drop, List.getElem?_append_right (by rw [List.length_append]; omega), List.length_append, ht2, hnt, List.getElem?_drop]
      congr 1; omega

theorem copy_sound (hT : TOK P T N) {I : Imm} {ρ : Pl} {m : Id → Option Ob} {w : World} (hw : WRep T N I ρ m w) {x x' : AV} {y y' : Value} {t e : Nat} {ty : TypeId} {q : Nat × (Nat → AV) × List Id} {r : Nat × List (Id × Ob) × List Id × Prop} (hk : (T t).kind = .slice e)
    (hx : Rep1 T N I ρ x y) (hx' : Rep1 T N I ρ x' y') (hq : srcC T m e x' = some q) (h : cpyA T m e q x = some r) (hc : r.2.2.2) (hnn : holdsC (nOf m x)) (hnn' : holdsC (nOf m x')) :
    ∃ w' I' ρ', (Builtin.copy_ #[t, t] ty #[y, y']).run P w = .ok (.int .i64 r.1) w' ∧ Ev I ρ w I' ρ' w' ∧ WRep T N I' ρ' (appM m r.2.1) w' := by
  have he := hT.slice t e hk
  have hpos := hT.size_pos he
  obtain ⟨news, ⟨n1, n2⟩, n3, n4, n5⟩ := srcC_sound (P := P) hT hw hpos hx' hq hnn'
  unfold cpyA at h
  split at h
  · rename_i id n i p lo len hi
    split at h
    · rename_i B hm
      simp only [Option.bind_eq_some_iff] at h
      obtain ⟨ta, hta, h⟩ := h
      split at h
      · rename_i k e' hka
        obtain ⟨hb, h⟩ := cond_some h
        cases h
        have ee := Nat.eq_of_beq_eq_true hb
        subst ee
        have e1 : B.n = n := by simpa [nOf, nC, hm, holdsC] using hnn
        obtain ⟨pl, hp, hn, hx⟩ := Rep.arr_inv hx
        obtain ⟨p', cs, c1, c2, c3, c4, c5, c6, c7, c8, c9, c10⟩ := hw.cellsAt hm hp
        rw [hp] at c1; cases c1
        obtain ⟨hi', ta', ka', ea', g1, g2, g3, g4, g5, g6, rfl⟩ := hx (by rw [c3, e1])
        rw [c2, hta] at g1; cases g1
        rw [hka] at g3; cases g3
        rw [c2] at g2
        generalize hcnt : Nat.min q.1 len = cnt
        have hcl : cnt ≤ len := by rw [← hcnt]; exact Nat.min_le_right _ _
        have hcq : cnt ≤ q.1 := by rw [← hcnt]; exact Nat.min_le_left _ _
        have hfz : B.fz ≤ i := hc
        have hiB : i < B.n := by omega
        obtain ⟨sg, r1, r2, r3, r4⟩ := c8 i hiB
        have hle := pathOff_le r1 r2 r3 hta g2
        have hasz := (hT.array ta k e' hka).2
        have hbase : (i + 1) * (T B.ty).size ≤ B.n * (T B.ty).size := Nat.mul_le_mul_right _ hiB
        rw [Nat.succ_mul] at hbase
        -- the old elements
        have hold : ∀ j, ∃ seg, j < k → Rep T N I ρ (((B.get i).at p).at [j]) seg ∧ fit T e' (((B.get i).at p).at [j]) = true ∧ seg.length = (T e').size ∧
            ∀ o, o < (T e').size → cs.toList[i * (T B.ty).size + pathOff T B.ty p + (j * (T e').size + o)]? = seg[o]? := by
          intro j
          by_cases hj : j < k
          · obtain ⟨seg, s1, s2, s3, s4⟩ := ptr_cells hw hm hp (i := i) (p := p ++ [j]) (t := e') hiB (by rw [pathTy_snoc p hta]; simp [pathTy, hka]) (pathIn_snoc p hta g2 (by simp [pathIn, hka]; omega))
            rw [at_snoc] at s1 s2
            refine ⟨seg, fun _ => ⟨s1, s2, s3, fun o ho => ?_⟩⟩
            rw [← s4 o ho, c2, pathOff_snoc p hta]
            simp only [pathOff, hka, Nat.add_zero, World.cell?, c5, Option.isSome_none, Bool.false_eq_true, if_false, Array.getElem?_toList]
            congr 1
            omega
          · exact ⟨[], fun h => absurd h hj⟩
        have hnewx : ∀ j, ∃ seg, j < q.1 → Rep T N I ρ (q.2.1 j) seg ∧ fit T e' (q.2.1 j) = true ∧ seg.length = (T e').size ∧ ∀ o, o < (T e').size → news[j * (T e').size + o]? = seg[o]? := by
          intro j
          by_cases hj : j < q.1
          · obtain ⟨seg, h⟩ := n5 j hj; exact ⟨seg, fun _ => h⟩
          · exact ⟨[], fun h => absurd h hj⟩
        have ho := fun j => Classical.choose_spec (hold j)
        have hn' := fun j => Classical.choose_spec (hnewx j)
        have hblt : ∀ a b : Nat, (Nat.blt a b = true) = (a < b) := fun a b => by simp [Nat.blt_eq]
        have hseg : ∀ j, j < k → ∃ seg, Rep T N I ρ (bif Nat.ble lo j && Nat.blt j (lo + cnt) then q.2.1 (j - lo) else ((B.get i).at p).at [j]) seg ∧ fit T e' (bif Nat.ble lo j && Nat.blt j (lo + cnt) then q.2.1 (j - lo) else ((B.get i).at p).at [j]) = true ∧ seg.length = (T e').size ∧
            (lo ≤ j → j < lo + cnt → ∀ o, o < (T e').size → seg[o]? = news[(j - lo) * (T e').size + o]?) ∧ ((j < lo ∨ lo + cnt ≤ j) → ∀ o, o < (T e').size → seg[o]? = cs.toList[i * (T B.ty).size + pathOff T B.ty p + (j * (T e').size + o)]?) := by
          intro j hj
          by_cases hin : lo ≤ j ∧ j < lo + cnt
          · have hbb : (Nat.ble lo j && Nat.blt j (lo + cnt)) = true := by simp [hin.1, hin.2, hblt, Nat.blt_eq]
            rw [hbb]
            obtain ⟨a1, a2, a3, a4⟩ := hn' (j - lo) (by omega)
            exact ⟨_, a1, a2, a3, fun _ _ o ho => (a4 o ho).symm, fun h => by omega⟩
          · have hbb : (Nat.ble lo j && Nat.blt j (lo + cnt)) = false := by
              cases hz : (Nat.ble lo j && Nat.blt j (lo + cnt)) with
              | false => rfl
              | true => simp [Nat.blt_eq] at hz; exact absurd hz hin
            rw [hbb]
            obtain ⟨a1, a2, a3, a4⟩ := ho j hj
            exact ⟨_, a1, a2, a3, fun h1 h2 => absurd ⟨h1, h2⟩ hin, fun _ o ho => (a4 o ho).symm⟩
        have hex : ∀ j, ∃ seg, j < k → Rep T N I ρ (bif Nat.ble lo j && Nat.blt j (lo + cnt) then q.2.1 (j - lo) else ((B.get i).at p).at [j]) seg ∧ fit T e' (bif Nat.ble lo j && Nat.blt j (lo + cnt) then q.2.1 (j - lo) else ((B.get i).at p).at [j]) = true ∧ seg.length = (T e').size ∧
            (lo ≤ j → j < lo + cnt → ∀ o, o < (T e').size → seg[o]? = news[(j - lo) * (T e').size + o]?) ∧ ((j < lo ∨ lo + cnt ≤ j) → ∀ o, o < (T e').size → seg[o]? = cs.toList[i * (T B.ty).size + pathOff T B.ty p + (j * (T e').size + o)]?) := by
          intro j
          by_cases hj : j < k
          · obtain ⟨seg, h⟩ := hseg j hj; exact ⟨seg, fun _ => h⟩
          · exact ⟨[], fun h => absurd h hj⟩
        have hs := fun j => Classical.choose_spec (hex j)
        generalize hsg : (fun j => Classical.choose (hex j)) = segs at hs
        have hs' : ∀ j, j < k → Rep T N I ρ (bif Nat.ble lo j && Nat.blt j (lo + cnt) then q.2.1 (j - lo) else ((B.get i).at p).at [j]) (segs j) ∧ fit T e' (bif Nat.ble lo j && Nat.blt j (lo + cnt) then q.2.1 (j - lo) else ((B.get i).at p).at [j]) = true ∧ (segs j).length = (T e').size ∧
            (lo ≤ j → j < lo + cnt → ∀ o, o < (T e').size → (segs j)[o]? = news[(j - lo) * (T e').size + o]?) ∧ ((j < lo ∨ lo + cnt ≤ j) → ∀ o, o < (T e').size → (segs j)[o]? = cs.toList[i * (T B.ty).size + pathOff T B.ty p + (j * (T e').size + o)]?) := by
          intro j hj
          have h1 := hs j hj
          rw [← hsg]
          exact h1
        have hrep : Rep T N I ρ (.agg ta k fun j => bif Nat.ble lo j && Nat.blt j (lo + cnt) then q.2.1 (j - lo) else ((B.get i).at p).at [j]) ((List.range k).flatMap segs) :=
          .array e' segs hka (hT.pathLt p c4 hta) (fun j hj => (hs' j hj).1) (fun j hj => (hs' j hj).2.1) (fun j hj => (hs' j hj).2.2.1)
        have hsl := segs_const segs (fun j hj => (hs' j hj).2.2.1)
        obtain ⟨I', ρ', z1, z2⟩ := store_world (P := P) hT hw hm hp hiB hta g2 hfz hrep (by simp [fit, hka, TK.isAgg]) (by rw [hsl, hasz]) c5
        have hcap : lo + cnt ≤ k := by omega
        have heq := splice_eq (A := i * (T B.ty).size + pathOff T B.ty p) hpos (cs := cs.toList) (news := news) (lo := lo) (cnt := cnt) (k := k) (segs := segs) (olds := segs) (by rw [Array.length_toList, ← hasz]; omega) hcap (by rw [n3]; exact Nat.mul_le_mul_right _ hcq)
          (fun j hj => (hs' j hj).2.2.1) (fun j hj h1 h2 => (hs' j hj).2.2.2.1 h1 h2) (fun j hj h1 => (hs' j hj).2.2.2.2 h1)
        rw [heq] at z1 z2
        refine ⟨_, I', ρ', ?_, z1, by simpa [appM] using z2⟩
        have hfc := n2 cnt hcq
        have hfit : i * (T B.ty).size + pathOff T B.ty p + lo * (T e').size + (news.take (cnt * (T e').size)).length ≤ cs.size := by
          have hnt : (news.take (cnt * (T e').size)).length = cnt * (T e').size := by rw [List.length_take, n3]; exact Nat.min_eq_left (Nat.mul_le_mul_right _ hcq)
          have hlk : (lo + cnt) * (T e').size ≤ k * (T e').size := Nat.mul_le_mul_right _ hcap
          rw [Nat.add_mul] at hlk
          omega
        have hst := run_storeCells_at P pl.b (i * (T B.ty).size + pathOff T B.ty p + lo * (T e').size) B.ty (news.take (cnt * (T e').size)) 0 cs w c5 (by simpa using hfit) (fun v hv => n4 v (List.mem_of_mem_take hv))
        simp only [Nat.add_zero] at hst
        have hc2 : i * (T pl.ty).size + pathOff T pl.ty p = i * (T B.ty).size + pathOff T B.ty p := by rw [c2]
        simp only [hc2]
        simp [Builtin.copy_, (hT.sli hk).2, n1, hcnt, hT.runSize he, hfc, hst, goInt]
      · cases h
    · cases h
  · cases h

theorem seg_world (hT : TOK P T N) {I : Imm} {ρ : Pl} {m : Id → Option Ob} {w w' : World} (hw : WRep T N I ρ m w) {id : Id} {B : Blk} {i len : Nat} {h : Nat → AV} {q : Place} {cs cs' : Array Value}
    (hm : m id = some (.cells B)) (hq : ρ id = some q) (hi : i + len ≤ B.n) (hfz : B.fz ≤ i) (hcs : w.heap[q.b]? = some (.cells cs B.ty (0, 0))) (hsz : cs'.size = cs.size)
    (hh' : w'.heap[q.b]? = some (.cells cs' B.ty (0, 0))) (hoth : ∀ b, b < w.heap.size → b ≠ q.b → w'.heap[b]? = w.heap[b]?) (hs : w.heap.size ≤ w'.heap.size) (h1 : w'.os = w.os) (h2 : w'.output = w.output) (h3 : (w'.tape = w.tape ∧ w.drawn ≤ w'.drawn))
    (hin : ∀ j, j < len → ∃ seg, Rep T N I ρ (h j) seg ∧ fit T B.ty (h j) = true ∧ seg.length = (T B.ty).size ∧ ∀ o, o < (T B.ty).size → cs'[(i + j) * (T B.ty).size + o]? = seg[o]?)
    (hout : ∀ k, k < i * (T B.ty).size ∨ (i + len) * (T B.ty).size ≤ k → cs'[k]? = cs[k]?) :
    Ev I ρ w I ρ w' ∧ WRep T N I ρ (setM m id (.cells { B with get := fun j => bif Nat.ble i j && Nat.blt j (i + len) then h (j - i) else B.get j })) w' := by
  obtain ⟨q', cs0, c1, c2, c3, c4, c5, c6, c7, c8, c9, c10⟩ := hw.cellsAt hm hq
  rw [hq] at c1; cases c1
  rw [hcs] at c5; cases c5
  have hplace : ({ q with n := ({ B with get := fun j => bif Nat.ble i j && Nat.blt j (i + len) then h (j - i) else B.get j } : Blk).n } : Place) = q := by cases q; simp_all
  have hset : setP ρ id q = ρ := by
    funext a
    by_cases ha : a = id
    · subst ha; rw [setP_self, hq]
    · rw [setP_ne _ _ ha]
  have hch := WRep.change (B' := { B with get := fun j => bif Nat.ble i j && Nat.blt j (i + len) then h (j - i) else B.get j }) (w' := w') hw hm hq hcs rfl rfl (Nat.le_refl _) hsz (by rw [hsz, c6]; exact c7) hh' hoth
    (fun j hj => by
      have : B.fz * (T B.ty).size ≤ i * (T B.ty).size := Nat.mul_le_mul_right _ hfz
      exact hout j (.inl (by omega)))
    (fun j hj => by
      rw [hplace, hset]
      simp only at hj
      by_cases hin' : i ≤ j ∧ j < i + len
      · have hbb : (Nat.ble i j && Nat.blt j (i + len)) = true := by simp [hin'.1, hin'.2, Nat.blt_eq]
        simp only [hbb, cond_true]
        obtain ⟨seg, e1, e2, e3, e4⟩ := hin (j - i) (by omega)
        refine ⟨seg, e1, e2, e3, fun o ho => ?_⟩
        rw [← e4 o ho]
        congr 3
        omega
      · have hbb : (Nat.ble i j && Nat.blt j (i + len)) = false := by
          cases hz : (Nat.ble i j && Nat.blt j (i + len)) with
          | false => rfl
          | true => simp [Nat.blt_eq] at hz; exact absurd hz hin'
        simp only [hbb, cond_false]
        obtain ⟨seg, e1, e2, e3, e4⟩ := c8 j hj
        refine ⟨seg, e1, e2, e3, fun o ho => ?_⟩
        rw [← e4 o ho]
        refine hout _ ?_
        rcases Nat.lt_or_ge j i with hji | hji
        · have : (j + 1) * (T B.ty).size ≤ i * (T B.ty).size := Nat.mul_le_mul_right _ hji
          rw [Nat.succ_mul] at this
          exact .inl (by omega)
        · have : (i + len) * (T B.ty).size ≤ j * (T B.ty).size := Nat.mul_le_mul_right _ (by omega)
          exact .inr (by omega))
  rw [hplace, hset] at hch
  exact ⟨Ev.change hw hq (PlLe.refl _) (fun a p hp => ⟨a, p, hp, rfl⟩) hoth hs h1 h2 h3, hch.2⟩

theorem zeroCells_get {z : Array Value} {n i o : Nat} (ho : o < z.size) (hi : i < n) : (Builtin.zeroCells z n)[i * z.size + o]? = z.toList[o]? := by
  have h1 : (i * z.size + o) % z.size = o := by rw [Nat.mul_comm, Nat.mul_add_mod]; exact Nat.mod_eq_of_lt ho
  have h2 : i * z.size + o < n * z.size := by
    have := Nat.mul_le_mul_right z.size (show i + 1 ≤ n from hi)
    rw [Nat.succ_mul] at this
    omega
  simp [Builtin.zeroCells, h2, h1, ho]
theorem clear_sound (hT : TOK P T N) {I : Imm} {ρ : Pl} {m : Id → Option Ob} {w : World} (hw : WRep T N I ρ m w) {id : Id} {n i len : Nat} {cap : Option Nat} {B : Blk} {y : Value} {t ty : Nat}
    (hm : m id = some (.cells B)) (hk : (T t).kind = .slice B.ty) (hx : Rep1 T N I ρ (.own id n i len cap) y) (hn : B.n = n) (hfz : B.fz ≤ i) (hz : zgood (T B.ty).zero = true) :
    ∃ w', (Builtin.clear_ #[t] ty #[y]).run P w = .ok (.tuple #[]) w' ∧ Ev I ρ w I ρ w' ∧ WRep T N I ρ (setM m id (.cells { B with get := fun j => bif Nat.ble i j && Nat.blt j (i + len) then (T B.ty).zero else B.get j })) w' := by
  have he := hT.slice t B.ty hk
  have same : len = 0 → WRep T N I ρ (setM m id (.cells { B with get := fun j => bif Nat.ble i j && Nat.blt j (i + len) then (T B.ty).zero else B.get j })) w := by
    rintro rfl
    have e1 : (fun j => bif Nat.ble i j && Nat.blt j (i + 0) then (T B.ty).zero else B.get j) = B.get := by
      funext j
      have hbb : (Nat.ble i j && Nat.blt j (i + 0)) = false := by
        cases hz : (Nat.ble i j && Nat.blt j (i + 0)) with
        | false => rfl
        | true => simp [Nat.blt_eq] at hz; omega
      show (bif (Nat.ble i j && Nat.blt j (i + 0)) then _ else _) = _
      rw [hbb]; rfl
    have e2 : setM m id (.cells { B with get := fun j => bif Nat.ble i j && Nat.blt j (i + 0) then (T B.ty).zero else B.get j }) = m := by
      funext a
      by_cases ha : a = id
      · subst ha; rw [setM_self, hm, e1]
      · rw [setM_ne _ _ ha]
    rw [e2]; exact hw
  rcases Rep.own_inv hx with ⟨rfl, rfl, rfl, rfl⟩ | ⟨q, hq, hqn, hx⟩
  · exact ⟨w, by simp [Builtin.clear_, (hT.sli hk).2], Ev.refl _ _ _, same rfl⟩
  obtain ⟨q', cs, c1, c2, c3, c4, c5, c6, c7, c8, c9, c10⟩ := hw.cellsAt hm hq
  rw [hq] at c1; cases c1
  obtain ⟨c, rfl, g1, g2, g3, g4, g5, g6⟩ := hx (by rw [c3, hn])
  by_cases hl0 : len = 0
  · subst hl0
    exact ⟨w, by simp [Builtin.clear_, (hT.sli hk).2], Ev.refl _ _ _, same rfl⟩
  obtain ⟨inf, z, hi1, hz1, hzf, hzr⟩ := hT.zero B.ty he hz
  have hzl : z.cells.size = (T B.ty).size := by
    have := fit_len hT he (hzr I ρ) hzf
    simpa using this
  have hzone : ∀ v ∈ (Builtin.zeroCells z.cells len).toList, v.oneCell' = true := by
    intro v hv
    have hone := (hzr I ρ).cells_one
    simp only [Builtin.zeroCells, Array.toList_map, List.mem_map] at hv
    obtain ⟨k, hk1, rfl⟩ := hv
    have hk2 : k < len * z.cells.size := by simpa using hk1
    have hpos : 0 < z.cells.size := by
      rcases Nat.eq_zero_or_pos z.cells.size with h | h
      · rw [h] at hk2; omega
      · exact h
    have hlt : k % z.cells.size < z.cells.size := Nat.mod_lt _ hpos
    rw [getElem!_pos z.cells _ hlt]
    exact hone _ (by simp [Array.getElem_mem_toList])
  have hcl : (i + len) * (T B.ty).size ≤ B.n * (T B.ty).size := Nat.mul_le_mul_right _ (by omega)
  have hnl : (Builtin.zeroCells z.cells len).toList.length = len * (T B.ty).size := by simp [Builtin.zeroCells, hzl]
  rw [Nat.add_mul] at hcl
  have hst := run_storeCells_at P q.b (i * (T B.ty).size) B.ty (Builtin.zeroCells z.cells len).toList 0 cs w c5 (by rw [hnl]; omega) hzone
  simp only [Nat.add_zero] at hst
  have hcs' : ∀ k : Nat, (cs.toList.take (i * (T B.ty).size) ++ (Builtin.zeroCells z.cells len).toList ++ cs.toList.drop (i * (T B.ty).size + (Builtin.zeroCells z.cells len).toList.length)).toArray[k]? =
      if i * (T B.ty).size ≤ k ∧ k < i * (T B.ty).size + len * (T B.ty).size then (Builtin.zeroCells z.cells len)[k - i * (T B.ty).size]? else cs[k]? := by
    intro k
    simp only [List.getElem?_toArray]
    have hcl : cs.toList.length = cs.size := by simp
    by_cases h1 : k < i * (T B.ty).size
    · rw [if_neg (by omega), List.append_assoc, List.getElem?_append_left (by rw [List.length_take]; omega), List.getElem?_take, if_pos h1, Array.getElem?_toList]
    · by_cases h2 : k < i * (T B.ty).size + len * (T B.ty).size
      · rw [if_pos (by omega), List.append_assoc, List.getElem?_append_right (by rw [List.length_take]; omega), List.length_take, Nat.min_eq_left (by omega), List.getElem?_append_left (by rw [hnl]; omega), Array.getElem?_toList]
      · rw [if_neg (by omega), List.getElem?_append_right (by rw [List.length_append, List.length_take, hnl]; omega), List.length_append, List.length_take, Nat.min_eq_left (by omega), List.getElem?_drop, Array.getElem?_toList]
        rw [hnl]
        congr 1
        omega
  have hsw := seg_world (len := len) (h := fun _ => (T B.ty).zero) (w' := w.setRow q.b (cs.toList.take (i * (T B.ty).size) ++ (Builtin.zeroCells z.cells len).toList ++ cs.toList.drop (i * (T B.ty).size + (Builtin.zeroCells z.cells len).toList.length)).toArray) hT hw hm hq (by omega) hfz c5
    (by simp only [List.size_toArray, List.length_append, List.length_take, List.length_drop, Array.length_toList, hnl]; omega) (setRow_heap w q.b cs _ B.ty (0, 0) c5) (fun b _ hb => setRow_other w q.b b _ hb) (by simp) rfl rfl ⟨rfl, by first | exact Nat.le_refl _ | exact Nat.le_succ _⟩
    (fun j hj => by
      refine ⟨z.cells.toList, hzr I ρ, hzf, by simpa using hzl, fun o ho => ?_⟩
      have h9 : (j + 1) * (T B.ty).size ≤ len * (T B.ty).size := Nat.mul_le_mul_right _ hj
      rw [Nat.succ_mul] at h9
      rw [hcs', if_pos (by rw [Nat.add_mul]; omega), ← zeroCells_get (n := len) (i := j) (by omega) hj]
      congr 1
      rw [Nat.add_mul, hzl]; omega)
    (fun k hk => by rw [hcs', if_neg (by rw [← Nat.add_mul]; omega)])
  refine ⟨_, ?_, hsw.1, hsw.2⟩
  obtain ⟨l0, hl0'⟩ : ∃ l0, len = l0 + 1 := ⟨len - 1, by omega⟩
  subst hl0'
  simp [Builtin.clear_, (hT.sli hk).2, zeroValue, typeInfo, hi1, hz1, hst, c2]
end
end Go.Ab

/- Ab, part 16d: maps. -/
set_option autoImplicit false
set_option linter.unusedVariables false
namespace Go.Ab
section
variable {P : Program} {T : Nat → TI} {N : Nat}

theorem run_checkKey_rep (hT : TOK P T N) {I : Imm} {ρ : Pl} (em : Bool) (w : World) : ∀ (f n t : Nat) (x : AV) (v : Value), f ≤ n → keyTy T f t = true → Rep1 T N I ρ x v → fit T t x = true → (Instr.checkKey em n t v).run P w = .ok () w
  | 0, _, _, _, _, _, h, _, _ => by simp [keyTy] at h
  | f + 1, 0, _, _, _, hn, _, _, _ => by omega
  | f + 1, n + 1, t, x, v, hn, hk, hx, hf => by
    have plain : (T t).kind.isAgg = false → (∀ d, P.underlying t = some d → (∀ a b, d ≠ .array a b) ∧ (∀ a, d ≠ .struct a) ∧ (∀ a, d ≠ .interface a)) → (Instr.checkKey em (n + 1) t v).run P w = .ok () w := by
      intro ha hd
      have ht : t < N := by
        refine hT.lt (fun e => ?_)
        simp [keyTy, e] at hk
      obtain ⟨d, h1, h2, _⟩ := hT.runUnd ht
      obtain ⟨g1, g2, g3⟩ := hd d h2
      simp only [Instr.checkKey, Sem.run_bind, h1, Result.andThen_ok]
      cases d <;> first | exact absurd rfl (g1 _ _) | exact absurd rfl (g2 _) | exact absurd rfl (g3 _) | rfl
    unfold keyTy at hk
    split at hk
    · rename_i k hkd
      have := kind_int hT hkd w
      refine plain (by rw [hkd]; rfl) (fun d hd => ?_)
      have h2 := hT.runUnd (hT.lt (t := t) (by rw [hkd]; simp))
      obtain ⟨d', _, h3, h4⟩ := h2
      rw [hd] at h3; cases h3
      rw [hkd] at h4
      cases d <;> simp_all [kindOf]
    · rename_i hkd
      refine plain (by rw [hkd]; rfl) (fun d hd => ?_)
      obtain ⟨d', _, h3, h4⟩ := hT.runUnd (hT.lt (t := t) (by rw [hkd]; simp))
      rw [hd] at h3; cases h3
      rw [hkd] at h4
      cases d <;> simp_all [kindOf]
    · rename_i hkd
      refine plain (by rw [hkd]; rfl) (fun d hd => ?_)
      obtain ⟨d', _, h3, h4⟩ := hT.runUnd (hT.lt (t := t) (by rw [hkd]; simp))
      rw [hd] at h3; cases h3
      rw [hkd] at h4
      cases d <;> simp_all [kindOf]
    · -- a struct
      rename_i fs hkd
      simp only [Bool.and_eq_true, List.all_eq_true] at hk
      obtain ⟨m, g, rfl⟩ := fit_agg hf (by rw [hkd]; rfl)
      obtain ⟨cs, hr, rfl, _, ht⟩ := Rep1.agg_inv hx
      obtain ⟨d, hd, hkk, hfl⟩ := hT.und t ht
      rw [hkd] at hkk
      cases d <;> simp only [kindOf, reduceCtorEq, TK.struct.injEq] at hkk
      rename_i flds
      subst hkk
      rw [Instr.checkKey]
      simp only [Sem.run_bind, run_underlying hd, Result.andThen_ok]
      rw [← Array.forIn_toList]
      have each : ∀ fl ∈ flds.toList, fl.name ≠ "_" ∧ ∃ y, (part fl.type cs.toArray fl.offset).run P w = .ok y w ∧ (Instr.checkKey em n fl.type y).run P w = .ok () w := by
        intro fl hm
        obtain ⟨k, hkk⟩ := List.getElem?_of_mem hm
        have hkk' : flds[k]? = some fl := by rw [← hkk, Array.getElem?_toList]
        obtain ⟨o1, o2⟩ := hfl flds rfl k fl hkk'
        have hu : (flds.toList.map (·.type))[k]? = some fl.type := by simp [hkk']
        have hpt : pathTy T t [k] = some fl.type := by simp only [pathTy, hkd, hu]; rfl
        have hpi : pathIn T t [k] := by simp [pathIn, hkd, hu]
        have hpo : pathOff T t [k] = foff T (flds.toList.map (·.type)) k := by simp [pathOff, hkd, hu]
        have hft : fit T t (.agg t m g) = true := by simp [fit, hkd, TK.isAgg]
        have htt : fit T t (.agg t m g) = true := hft
        obtain ⟨seg, s1, s2, s3, s4⟩ := hr.at [k] hft (Rep.agg_len hT hr) hpt hpi
        have hlt := hT.pathLt [k] ht hpt
        have hrun := run_part_rep hT hlt s1 s2 s3 (cs := cs.toArray) (off := fl.offset) (w := w) (fun o ho => by
          have := s4 o ho
          rw [hpo, ← o1] at this
          simpa using this)
        refine ⟨o2, _, hrun, run_checkKey_rep hT em w f n fl.type _ _ (by omega) (hk.2 _ (List.mem_of_getElem? hu)) s1.pack s2⟩
      generalize flds.toList = L at each
      induction L with
      | nil => simp
      | cons fl L ih =>
        obtain ⟨h1, y, h2, h3⟩ := each fl (by simp)
        simp only [List.forIn_cons, Sem.run_bind, h1, ne_eq, not_false_eq_true, if_true, Result.andThen_ok, h2, h3, Sem.run_pure]
        exact ih (fun y hy => each y (by simp [hy]))
    · -- an array
      rename_i len e hkd
      obtain ⟨m, g, rfl⟩ := fit_agg hf (by rw [hkd]; rfl)
      obtain ⟨cs, hr, rfl, _, ht⟩ := Rep1.agg_inv hx
      have he := (hT.array t len e hkd).1
      have hft : fit T t (.agg t m g) = true := by simp [fit, hkd, TK.isAgg]
      rw [Instr.checkKey]
      simp only [Sem.run_bind, hT.arr hkd, Result.andThen_ok]
      simp only [Std.Legacy.Range.forIn_eq_forIn_range', Std.Legacy.Range.size, Nat.sub_zero, Nat.add_one_sub_one, Nat.div_one]
      have each : ∀ k ∈ List.range' 0 len, ∃ y, (part e cs.toArray (k * (T e).size)).run P w = .ok y w ∧ (Instr.checkKey em n e y).run P w = .ok () w := by
        intro k hm
        have hkl : k < len := by simpa using hm
        have hpt : pathTy T t [k] = some e := by simp [pathTy, hkd]
        have hpi : pathIn T t [k] := by simp [pathIn, hkd, hkl]
        have hpo : pathOff T t [k] = k * (T e).size := by simp [pathOff, hkd]
        obtain ⟨seg, s1, s2, s3, s4⟩ := hr.at [k] hft (Rep.agg_len hT hr) hpt hpi
        have hrun := run_part_rep hT he s1 s2 s3 (cs := cs.toArray) (off := k * (T e).size) (w := w) (fun o ho => by
          have := s4 o ho
          rw [hpo] at this
          simpa using this)
        exact ⟨_, hrun, run_checkKey_rep hT em w f n e _ _ (by omega) hk s1.pack s2⟩
      generalize List.range' 0 len = L at each
      induction L with
      | nil => simp
      | cons k L ih =>
        obtain ⟨y, h2, h3⟩ := each k (by simp)
        simp only [List.forIn_cons, Sem.run_bind, hT.runSize he, Result.andThen_ok, h2, h3, Sem.run_pure]
        exact ih (fun y hy => each y (by simp [hy]))
    · cases hk

theorem now_eq (hT : TOK P T N) {I : Imm} {ρ : Pl} {f kt : Nat} {x y : AV} {u v : Value} {b : Bool} (hx : Rep1 T N I ρ x u) (hy : Rep1 T N I ρ y v) (ha : (T kt).kind.isAgg = false) (h : flatEq T f kt x y = some b) {d : TypeDesc} (hd : P.underlying kt = some d) : Instr.sameNow d u v = some b := by
  have ht : (T kt).kind ≠ .other := by
    intro e
    cases f <;> simp [flatEq, e] at h
  obtain ⟨d', _, h3, h4⟩ := hT.runUnd (hT.lt ht)
  rw [hd] at h3; cases h3
  cases f with
  | zero => simp [flatEq] at h
  | succ f =>
    unfold flatEq at h
    split at h
    · rename_i hk
      obtain ⟨hb, h⟩ := cond_some h
      cases h
      obtain ⟨rfl, _⟩ := hx.v
      obtain ⟨rfl, _⟩ := hy.v
      rw [hk] at h4
      cases d <;> simp only [kindOf, reduceCtorEq, TK.int.injEq] at h4
      have : _ = _ := of_decide_eq_true hb
      simp [Instr.sameNow, this]
    · rename_i hk
      cases h
      obtain ⟨rfl, _⟩ := hx.v
      obtain ⟨rfl, _⟩ := hy.v
      rw [hk] at h4
      cases d <;> simp only [kindOf, reduceCtorEq] at h4
      rfl
    · rename_i hk
      cases h
      obtain ⟨rfl, _⟩ := hx.v
      obtain ⟨rfl, _⟩ := hy.v
      rw [hk] at h4
      cases d <;> simp only [kindOf, reduceCtorEq] at h4
      rfl
    · rename_i hk; rw [hk] at ha; cases ha
    · rename_i hk; rw [hk] at ha; cases ha
    · cases h

theorem get_map {w : World} {r : Nat} {es : Array MapEntry} {clock : Nat} (hb : w.heap[r]? = some (.map es clock)) : (getObj r).run P w = .ok (.map es clock) w := by
  simp [getObj, Sem.run, hb]
theorem set_map {w : World} {r : Nat} {es : Array MapEntry} {clock : Nat} (o : Obj) (hb : w.heap[r]? = some (.map es clock)) : (setObj r o).run P w = .ok () { w with heap := w.heap.setIfInBounds r o } := by
  simp [setObj, Sem.run, hb]

def Found (es : List MapEntry) (i0 : Nat) (j : Option Nat) (r : Option (Nat × Value)) : Prop := match j with
  | none => r = none
  | some i => ∃ e, i0 ≤ i ∧ es[i - i0]? = some e ∧ r = some (i, e.val)
theorem Found.cons {e : MapEntry} {es : List MapEntry} {i0 : Nat} {j : Option Nat} {r : Option (Nat × Value)} (h : Found es (i0 + 1) j r) : Found (e :: es) i0 j r := by
  cases j with
  | none => exact h
  | some i =>
    obtain ⟨e', h1, h2, h3⟩ := h
    exact ⟨e', by omega, by rw [show i - i0 = (i - (i0 + 1)) + 1 by omega, List.getElem?_cons_succ]; exact h2, h3⟩

theorem findNow_rep (hT : TOK P T N) {I : Imm} {ρ : Pl} {kt : Nat} {k : AV} {kv : Value} (hk : Rep1 T N I ρ k kv) (ha : (T kt).kind.isAgg = false) {d : TypeDesc} (hd : P.underlying kt = some d) : ∀ (es : List (AV × AV)) (en : List MapEntry) (i0 : Nat) (j : Option Nat), en.length = es.length →
    (∀ (i : Nat) (p : AV × AV) (e : MapEntry), es[i]? = some p → en[i]? = some e → Rep1 T N I ρ p.1 e.key) → mapIdx T kt k es i0 = some j → ∃ r, Instr.findNow d kv en i0 = some r ∧ Found en i0 j r
  | [], [], i0, j, _, _, h => by cases h; exact ⟨none, rfl, rfl⟩
  | [], _ :: _, _, _, hl, _, _ => by simp at hl
  | _ :: _, [], _, _, hl, _, _ => by simp at hl
  | p :: es, e :: en, i0, j, hl, hr, h => by
    unfold mapIdx at h
    split at h
    · rename_i hq
      cases h
      have := now_eq hT hk (hr 0 p e rfl rfl) ha hq hd
      exact ⟨some (i0, e.val), by simp [Instr.findNow, this], e, Nat.le_refl _, by simp, rfl⟩
    · rename_i hq
      have := now_eq hT hk (hr 0 p e rfl rfl) ha hq hd
      obtain ⟨r, h1, h2⟩ := findNow_rep hT hk ha hd es en (i0 + 1) j (by simpa using hl) (fun i p' e' h1 h2 => hr (i + 1) p' e' (by simpa using h1) (by simpa using h2)) h
      exact ⟨r, by simp [Instr.findNow, this, h1], h2.cons⟩
    · cases h
theorem findAsking_rep (hE : EqOK P T N) {I : Imm} {ρ : Pl} {kt : Nat} {k : AV} {kv : Value} (hk : Rep1 T N I ρ k kv) (ha : (T kt).kind.isAgg = true) (w : World) : ∀ (es : List (AV × AV)) (en : List MapEntry) (i0 : Nat) (j : Option Nat), en.length = es.length →
    (∀ (i : Nat) (p : AV × AV) (e : MapEntry), es[i]? = some p → en[i]? = some e → Rep1 T N I ρ p.1 e.key) → mapIdx T kt k es i0 = some j → ∃ r, (Instr.findAsking kt kv en i0).run P w = .ok r w ∧ Found en i0 j r
  | [], [], i0, j, _, _, h => by cases h; exact ⟨none, by simp [Instr.findAsking], rfl⟩
  | [], _ :: _, _, _, hl, _, _ => by simp at hl
  | _ :: _, [], _, _, hl, _, _ => by simp at hl
  | p :: es, e :: en, i0, j, hl, hr, h => by
    unfold mapIdx at h
    split at h
    · rename_i hq
      cases h
      have := (hE I ρ 40 kt _ _ _ _ _ w hk (hr 0 p e rfl rfl) ha hq (Nat.le_refl _)).1
      exact ⟨some (i0, e.val), by simp [Instr.findAsking, this], e, Nat.le_refl _, by simp, rfl⟩
    · rename_i hq
      have := (hE I ρ 40 kt _ _ _ _ _ w hk (hr 0 p e rfl rfl) ha hq (Nat.le_refl _)).1
      obtain ⟨r, h1, h2⟩ := findAsking_rep hE hk ha w es en (i0 + 1) j (by simpa using hl) (fun i p' e' h1 h2 => hr (i + 1) p' e' (by simpa using h1) (by simpa using h2)) h
      exact ⟨r, by simp [Instr.findAsking, this, h1], h2.cons⟩
    · cases h
theorem findKey_rep (hT : TOK P T N) (hE : EqOK P T N) {I : Imm} {ρ : Pl} {kt : Nat} {k : AV} {kv : Value} (hkt : kt < N) (hk : Rep1 T N I ρ k kv) (w : World) {es : List (AV × AV)} {en : List MapEntry} {j : Option Nat} (hl : en.length = es.length)
    (hr : ∀ (i : Nat) (p : AV × AV) (e : MapEntry), es[i]? = some p → en[i]? = some e → Rep1 T N I ρ p.1 e.key) (h : mapIdx T kt k es 0 = some j) : ∃ r, (Instr.findKey kt kv en).run P w = .ok r w ∧ Found en 0 j r := by
  obtain ⟨d, hd, hd', hkd⟩ := hT.runUnd hkt
  cases ha : (T kt).kind.isAgg with
  | false =>
    obtain ⟨r, h1, h2⟩ := findNow_rep hT hk ha hd' es en 0 j hl hr h
    exact ⟨r, by simp [Instr.findKey, hd, h1], h2⟩
  | true =>
    cases en with
    | nil =>
      cases es with
      | nil => cases h; exact ⟨none, by simp [Instr.findKey, hd, Instr.findNow], rfl⟩
      | cons p es => simp at hl
    | cons e en =>
      obtain ⟨r, h1, h2⟩ := findAsking_rep hE hk ha w es (e :: en) 0 j hl hr h
      refine ⟨r, ?_, h2⟩
      have hn : Instr.sameNow d kv e.key = none := by
        rw [← hkd] at ha
        cases d <;> simp [kindOf, TK.isAgg] at ha <;> rfl
      simp [Instr.findKey, hd, Instr.findNow, hn, h1]

theorem maps_len {I : Imm} {ρ : Pl} {es : List (AV × AV)} {entries : Array MapEntry} (h : ∀ (i : Nat) (k v : AV), es[i]? = some (k, v) → ∃ e : MapEntry, entries[i]? = some e ∧ Rep1 T N I ρ k e.key ∧ Rep1 T N I ρ v e.val) :
    ∀ (i : Nat) (p : AV × AV) (e : MapEntry), es[i]? = some p → entries.toList[i]? = some e → Rep1 T N I ρ p.1 e.key ∧ Rep1 T N I ρ p.2 e.val := by
  intro i p e h1 h2
  obtain ⟨e', h3, h4, h5⟩ := h i p.1 p.2 h1
  rw [Array.getElem?_toList, h3] at h2
  cases h2
  exact ⟨h4, h5⟩

theorem lookup_sound (hT : TOK P T N) (hE : EqOK P T N) {I : Imm} {ρ : Pl} {m : Id → Option Ob} {w : World} (hw : WRep T N I ρ m w) {id : Id} {es : List (AV × AV)} {t kt vt : Nat} {k r : AV} {y kv : Value} {ok : Bool} (hm : m id = some (.map es)) (hk : (T t).kind = .map kt vt)
    (hx : Rep1 T N I ρ (.mp id) y) (hkr : Rep1 T N I ρ k kv) (hky : keyTy T 40 kt = true) (hfk : fit T kt k = true) (hz : zgood (T vt).zero = true) (h : mapRes T kt vt es k ok = some r) :
    ∃ u, (Instr.lookup t y kv ok).run P w = .ok u w ∧ RepV T N I ρ r u := by
  obtain ⟨p, en, cl, d1, d2, d3, d4, d5, d6⟩ := hw.maps id es hm
  obtain ⟨hkt, hvt⟩ := hT.map t kt vt hk
  have hy : y = .map (some p.b) := by
    obtain ⟨cs, h1, h2⟩ := hx
    cases h1 with
    | mp q hq hx1 hx' => rw [d1] at hq; cases hq; rw [h2]; simpa [packV] using hx' d2
  subst hy
  have hu : ∀ w, (underlying t).run P w = .ok (.map kt vt) w := by
    obtain ⟨d, hd, h1, h2⟩ := hT.runUnd (hT.lt (t := t) (by rw [hk]; simp))
    rw [hk] at h2
    cases d <;> simp only [kindOf, reduceCtorEq, TK.map.injEq] at h2
    obtain ⟨rfl, rfl⟩ := h2
    exact hd
  simp only [mapRes, Option.bind_eq_some_iff] at h
  obtain ⟨j, hj, h⟩ := h
  have hrep := maps_len d6
  obtain ⟨rf, f1, f2⟩ := findKey_rep hT hE hkt hkr w (by rw [Array.length_toList]; exact d4) (fun i p e h1 h2 => (hrep i p e h1 h2).1) hj
  have hck := run_checkKey_rep hT en.isEmpty w 40 10000 kt k kv (by omega) hky hkr hfk
  cases j with
  | none =>
    cases f2
    obtain ⟨i, z, hi, hz', hzf, hzr⟩ := hT.zero vt hvt hz
    have hzrun : (zeroValue vt).run P w = .ok z w := by simp [zeroValue, typeInfo, hi, hz']
    have hzrep : Rep1 T N I ρ (T vt).zero z := by
      have := (hzr I ρ).pack
      rw [hT.zpack vt hvt hz i z hi hz'] at this
      exact this
    simp only at h
    cases ok with
    | false =>
      cases h
      refine ⟨z, ?_, .one hzrep⟩
      simp [Instr.lookup, hu, get_map d3, hck, f1, hzrun]
    | true =>
      cases h
      refine ⟨.tuple #[z, .bool false], ?_, ?_⟩
      · simp [Instr.lookup, hu, get_map d3, hck, f1, hzrun]
      · refine .tup _ rfl (fun i c hc => ?_)
        match i, hc with
        | 0, hc => simp at hc; subst hc; simpa using hzrep
        | 1, hc => simp at hc; subst hc; simpa using rep1_v rfl
        | n + 2, hc => simp at hc
  | some i =>
    obtain ⟨e, _, g2, rfl⟩ := f2
    simp only [Nat.sub_zero] at g2
    simp only [Option.bind_eq_some_iff, Option.some.injEq] at h
    obtain ⟨pe, h1, h2⟩ := h
    have hv := (hrep i pe e h1 g2).2
    cases ok with
    | false =>
      refine ⟨e.val, ?_, .one (h2 ▸ hv)⟩
      simp [Instr.lookup, hu, get_map d3, hck, f1]
    | true =>
      refine ⟨.tuple #[e.val, .bool true], ?_, ?_⟩
      · simp [Instr.lookup, hu, get_map d3, hck, f1]
      · rw [← h2]
        refine .tup _ rfl (fun i c hc => ?_)
        match i, hc with
        | 0, hc => simp at hc; subst hc; simpa using hv
        | 1, hc => simp at hc; subst hc; simpa using rep1_v rfl
        | n + 2, hc => simp at hc

theorem WRep.freshMap {I : Imm} {ρ : Pl} {m : Id → Option Ob} {w w' : World} (hw : WRep T N I ρ m w) {id : Id} (hnp : ρ id = none) {b : Nat} (hbs : w.heap.size ≤ b) {cl : Nat}
    (hold : ∀ r, r < w.heap.size → w'.heap[r]? = w.heap[r]?) (hnew : w'.heap[b]? = some (.map #[] cl)) (ty lim : Nat) :
    WRep T N I (setP ρ id ⟨b, ty, 0, lim⟩) (setM m id (.map [])) w' := by
  have hle : PlLe ρ (setP ρ id ⟨b, ty, 0, lim⟩) := by
    intro a p hp
    have ha : a ≠ id := by rintro rfl; rw [hnp] at hp; cases hp
    exact ⟨p, by rw [setP_ne _ _ ha, hp], Nat.le_refl _, fun _ => rfl⟩
  have hI : ∀ o, I b o = none := fun o => by
    cases h : I b o with
    | none => rfl
    | some y => have := cell?_lt (hw.imm b o y h); omega
  refine ⟨?_, ?_, ?_, ?_, ?_, hw.gl⟩
  · intro a A hA
    have ha : a ≠ id := by rintro rfl; rw [setM_self] at hA; cases hA
    rw [setM_ne _ _ ha] at hA
    rcases hw.cells a A hA with ⟨d1, d2⟩ | ⟨p, ds, d1, d2, d3, d4, d5, d6, d7, d8, d9, d10⟩
    · exact .inl ⟨by rw [setP_ne _ _ ha]; exact d1, d2⟩
    refine .inr ⟨p, ds, by rw [setP_ne _ _ ha]; exact d1, d2, d3, d4, by rw [hold _ (hw.place_lt d1)]; exact d5, d6, d7, fun i hi => ?_, d9, d10⟩
    obtain ⟨seg, e1, e2, e3, e4⟩ := d8 i hi
    exact ⟨seg, e1.mono (ImLe.refl _) hle, e2, e3, e4⟩
  · intro a es hA
    by_cases ha : a = id
    · subst ha
      rw [setM_self] at hA; cases hA
      exact ⟨_, #[], cl, setP_self _ _ _, rfl, hnew, rfl, fun j => hI j, fun i k v hi => by simp at hi⟩
    · rw [setM_ne _ _ ha] at hA
      obtain ⟨p, en, cl, d1, d2, d3, d4, d5, d6⟩ := hw.maps a es hA
      refine ⟨p, en, cl, by rw [setP_ne _ _ ha]; exact d1, d2, by rw [hold _ (hw.place_lt d1)]; exact d3, d4, d5, fun i k v hi => ?_⟩
      obtain ⟨e, e1, e2, e3⟩ := d6 i k v hi
      exact ⟨e, e1, e2.mono (ImLe.refl _) hle, e3.mono (ImLe.refl _) hle⟩
  · intro a p hp
    by_cases ha : a = id
    · subst ha; rw [setM_self]; simp
    · rw [setM_ne _ _ ha]; rw [setP_ne _ _ ha] at hp; exact hw.dom a p hp
  · intro a c p r hp hr e
    by_cases ha : a = id
    · by_cases hc : c = id
      · rw [ha, hc]
      · subst ha
        rw [setP_self] at hp; cases hp
        rw [setP_ne _ _ hc] at hr
        have := hw.place_lt hr
        simp only at e
        omega
    · rw [setP_ne _ _ ha] at hp
      by_cases hc : c = id
      · subst hc
        rw [setP_self] at hr; cases hr
        have := hw.place_lt hp
        simp only at e
        omega
      · rw [setP_ne _ _ hc] at hr
        exact hw.inj a c p r hp hr e
  · intro c o y hy
    have h0 := hw.imm c o y hy
    rw [cell?_heap (hold c (cell?_lt h0))]; exact h0

theorem WRep.changeMap {I : Imm} {ρ : Pl} {m : Id → Option Ob} {w w' : World} (hw : WRep T N I ρ m w) {id : Id} {es es' : List (AV × AV)} {q : Place} (hm : m id = some (.map es)) (hq : ρ id = some q) {en : Array MapEntry} {cl : Nat}
    (hh' : w'.heap[q.b]? = some (.map en cl)) (hoth : ∀ b, b ≠ q.b → w'.heap[b]? = w.heap[b]?) (hl : en.size = es'.length)
    (hel : ∀ (i : Nat) (k v : AV), es'[i]? = some (k, v) → ∃ e : MapEntry, en[i]? = some e ∧ Rep1 T N I ρ k e.key ∧ Rep1 T N I ρ v e.val) :
    WRep T N I ρ (setM m id (.map es')) w' := by
  obtain ⟨q', en0, cl0, c1, c2, c3, c4, c5, c6⟩ := hw.maps id es hm
  rw [hq] at c1; cases c1
  refine ⟨?_, ?_, ?_, hw.inj, ?_, hw.gl⟩
  · intro a A hA
    have ha : a ≠ id := by rintro rfl; rw [setM_self] at hA; cases hA
    rw [setM_ne _ _ ha] at hA
    rcases hw.cells a A hA with h | ⟨p, ds, d1, d2, d3, d4, d5, d6, d7, d8, d9, d10⟩
    · exact .inl h
    · exact .inr ⟨p, ds, d1, d2, d3, d4, by rw [hoth _ (fun e => ha (hw.inj a id p q d1 hq e))]; exact d5, d6, d7, d8, d9, d10⟩
  · intro a es0 hA
    by_cases ha : a = id
    · subst ha
      rw [setM_self] at hA; cases hA
      exact ⟨q, en, cl, hq, c2, hh', hl, c5, hel⟩
    · rw [setM_ne _ _ ha] at hA
      obtain ⟨p, en1, cl1, d1, d2, d3, d4, d5, d6⟩ := hw.maps a es0 hA
      exact ⟨p, en1, cl1, d1, d2, by rw [hoth _ (fun e => ha (hw.inj a id p q d1 hq e))]; exact d3, d4, d5, d6⟩
  · intro a p hp
    by_cases ha : a = id
    · subst ha; rw [setM_self]; simp
    · rw [setM_ne _ _ ha]; exact hw.dom a p hp
  · intro b o y hy
    have h0 := hw.imm b o y hy
    by_cases hb : b = q.b
    · subst hb; rw [c5 o] at hy; cases hy
    · rw [cell?_heap (hoth b hb)]; exact h0

theorem sameBits_now {d : TypeDesc} {u v : Value} (h : Instr.sameNow d u v = some true) : Instr.sameBits 10000 v u = true := by
  unfold Instr.sameNow at h
  split at h
  · split at h
    · rename_i k a k' b hk
      cases hk
      simp only [Option.some.injEq] at h
      have : a = b := by simpa using h
      simp [Instr.sameBits, this]
    · cases h
  · simp only [Option.some.injEq] at h
    rw [beq_toListBytes] at h
    simp only [Instr.sameBits, beq_toListBytes]
    simp at h ⊢
    exact h.symm
  · simp only [Option.some.injEq] at h
    have := eq_of_beq h
    simp [Instr.sameBits, this]
  · cases h

theorem mapIdx_some {kt : Nat} {k : AV} : ∀ {es : List (AV × AV)} {i0 i : Nat}, mapIdx T kt k es i0 = some (some i) → i0 ≤ i ∧ ∃ p, es[i - i0]? = some p ∧ flatEq T 40 kt k p.1 = some true
  | [], _, _, h => by cases h
  | p :: es, i0, i, h => by
    unfold mapIdx at h
    split at h
    · rename_i hq; cases h; exact ⟨Nat.le_refl _, p, by simp, hq⟩
    · obtain ⟨h1, q, h2, h3⟩ := mapIdx_some h
      exact ⟨by omega, q, by rw [show i - i0 = (i - (i0 + 1)) + 1 by omega, List.getElem?_cons_succ]; exact h2, h3⟩
    · cases h

theorem mapUpdate_sound (hT : TOK P T N) (hE : EqOK P T N) {I : Imm} {ρ : Pl} {m : Id → Option Ob} {w : World} (hw : WRep T N I ρ m w) {id : Id} {es es' : List (AV × AV)} {t kt vt : Nat} {k v : AV} {y kv vv : Value} (hm : m id = some (.map es)) (hk : (T t).kind = .map kt vt)
    (hx : Rep1 T N I ρ (.mp id) y) (hkr : Rep1 T N I ρ k kv) (hvr : Rep1 T N I ρ v vv) (hky : keyTy T 40 kt = true) (hfk : fit T kt k = true) (h : mapPut T kt es k v = some es') :
    ∃ w', (Instr.mapUpdate t y kv vv).run P w = .ok () w' ∧ Ev I ρ w I ρ w' ∧ WRep T N I ρ (setM m id (.map es')) w' := by
  obtain ⟨p, en, cl, d1, d2, d3, d4, d5, d6⟩ := hw.maps id es hm
  obtain ⟨hkt, hvt⟩ := hT.map t kt vt hk
  have hy : y = .map (some p.b) := by
    obtain ⟨cs, h1, h2⟩ := hx
    cases h1 with
    | mp q hq hx1 hx' => rw [d1] at hq; cases hq; rw [h2]; simpa [packV] using hx' d2
  subst hy
  have hu : ∀ w, (underlying t).run P w = .ok (.map kt vt) w := by
    obtain ⟨d, hd, h1, h2⟩ := hT.runUnd (hT.lt (t := t) (by rw [hk]; simp))
    rw [hk] at h2
    cases d <;> simp only [kindOf, reduceCtorEq, TK.map.injEq] at h2
    obtain ⟨rfl, rfl⟩ := h2
    exact hd
  simp only [mapPut, Option.bind_eq_some_iff] at h
  obtain ⟨j, hj, h⟩ := h
  have hrep := maps_len d6
  obtain ⟨rf, f1, f2⟩ := findKey_rep hT hE hkt hkr w (by rw [Array.length_toList]; exact d4) (fun i p e h1 h2 => (hrep i p e h1 h2).1) hj
  have hck := run_checkKey_rep hT false w 40 10000 kt k kv (by omega) hky hkr hfk
  have hlt : p.b < w.heap.size := (Array.getElem?_eq_some_iff.1 d3).1
  have hev : ∀ o, Ev I ρ w I ρ { w with heap := w.heap.setIfInBounds p.b o } := fun o =>
    ⟨ImLe.refl _, fun b o h h' => absurd h h', PlLe.refl _, fun a q hq => .inl ⟨a, q, hq, rfl⟩, fun b hb hne => by simp [Array.getElem?_setIfInBounds_ne (hne id p d1)], by simp, rfl, rfl, ⟨rfl, Nat.le_refl _⟩⟩
  have hoth : ∀ o b, b ≠ p.b → ({ w with heap := w.heap.setIfInBounds p.b o } : World).heap[b]? = w.heap[b]? := fun o b hb => by simp [Array.getElem?_setIfInBounds_ne (Ne.symm hb)]
  have hself : ∀ o, ({ w with heap := w.heap.setIfInBounds p.b o } : World).heap[p.b]? = some o := fun o => by simp [hlt]
  cases j with
  | none =>
    cases f2
    cases h
    refine ⟨{ w with heap := w.heap.setIfInBounds p.b (.map (en.push { key := kv, val := vv, born := cl }) (cl + 1)) }, ?_, hev _, ?_⟩
    · simp [Instr.mapUpdate, hu, get_map d3, hck, f1, set_map _ d3]
    · refine hw.changeMap hm d1 (hself _) (hoth _) (by simp [d4]) (fun i k' v' hi => ?_)
      rcases Nat.lt_or_ge i es.length with hil | hil
      · rw [List.getElem?_append_left hil] at hi
        obtain ⟨e, e1, e2, e3⟩ := d6 i k' v' hi
        exact ⟨e, by rw [Array.getElem?_push_lt (by omega)]; rw [← e1]; simp [show i < en.size by omega], e2, e3⟩
      · rw [List.getElem?_append_right hil] at hi
        have h0 : i - es.length = 0 := by
          have := (List.getElem?_eq_some_iff.1 hi).1
          simp at this; omega
        rw [h0] at hi
        simp at hi
        obtain ⟨rfl, rfl⟩ := hi
        have hie : i = en.size := by omega
        subst hie
        exact ⟨{ key := kv, val := vv, born := cl }, by simp, hkr, hvr⟩
  | some i =>
    obtain ⟨e, _, g2, rfl⟩ := f2
    simp only [Nat.sub_zero] at g2
    cases h
    have g2' : en[i]? = some e := by rw [← g2, Array.getElem?_toList]
    obtain ⟨_, pe, h1, h2⟩ := mapIdx_some hj
    simp only [Nat.sub_zero] at h1
    have hke := (hrep i pe e h1 g2).1
    have hsb : Instr.sameBits 10000 e.key kv = true := by
      obtain ⟨d, _, hd', _⟩ := hT.runUnd hkt
      cases ha : (T kt).kind.isAgg with
      | false => exact sameBits_now (now_eq hT hkr hke ha h2 hd')
      | true => exact (hE I ρ 40 kt _ _ _ _ _ w hkr hke ha h2 (Nat.le_refl _)).2.2 rfl
    refine ⟨{ w with heap := w.heap.setIfInBounds p.b (.map (en.modify i fun e => { e with key := kv, val := vv }) cl) }, ?_, hev _, ?_⟩
    · simp [Instr.mapUpdate, hu, get_map d3, hck, f1, g2', Instr.keyThatStays, hsb, set_map _ d3]
    · refine hw.changeMap hm d1 (hself _) (hoth _) (by simp [d4]) (fun i' k' v' hi => ?_)
      rw [List.getElem?_set] at hi
      split at hi
      · rename_i hii
        subst hii
        split at hi
        · cases hi
          exact ⟨{ e with key := kv, val := vv }, by simp [Array.getElem?_modify, g2'], hkr, hvr⟩
        · cases hi
      · rename_i hii
        obtain ⟨e', e1, e2, e3⟩ := d6 i' k' v' hi
        exact ⟨e', by rw [Array.getElem?_modify, if_neg hii]; exact e1, e2, e3⟩
end
end Go.Ab

/- Ab, part 16e: slices of slices, copies, maps, as operations. -/
set_option autoImplicit false
set_option linter.unusedVariables false
namespace Go.Ab
section
variable {P : Program} {T : Nat → TI} {N : Nat}

theorem slA_not_tup {t : Nat} {lo hi mx : Option Int} {m : Id → Option Ob} {x : AV} {r : AV × List Id × Prop} (h : slA T t lo hi mx m x = some r) : ∀ vs, x ≠ .tup vs := by rintro vs rfl; cases h
theorem cpyA_not_tup {m : Id → Option Ob} {e : Nat} {q : Nat × (Nat → AV) × List Id} {x : AV} {r : Nat × List (Id × Ob) × List Id × Prop} (h : cpyA T m e q x = some r) : ∀ vs, x ≠ .tup vs := by rintro vs rfl; cases h
theorem srcC_not_tup {m : Id → Option Ob} {e : Nat} {x : AV} {r : Nat × (Nat → AV) × List Id} (h : srcC T m e x = some r) : ∀ vs, x ≠ .tup vs := by rintro vs rfl; cases h

theorem nopA_not_tup {m : Id → Option Ob} {x : AV} {r : List Id × Option Prop} (h : nopA m x = some r) : ∀ vs, x ≠ .tup vs := by rintro vs rfl; cases h
theorem srcA_not_tup {m : Id → Option Ob} {e : Nat} {x : AV} {r : Nat × (Nat → AV) × List Id} (h : srcA T m e x = some r) : ∀ vs, x ≠ .tup vs := by rintro vs rfl; cases h
theorem nopA_slice {I : Imm} {ρ : Pl} {m : Id → Option Ob} {w : World} (hw : WRep T N I ρ m w) {x : AV} {y : Value} {r : List Id × Option Prop} (hx : Rep1 T N I ρ x y) (h : nopA m x = some r) (hc : holdsC r.2) : ∃ b l c, y = .slice b l c ∧ l ≤ c := by
  unfold nopA at h
  split at h
  · rcases Rep.row_inv hx with ⟨⟨_, rfl⟩, _, _⟩ | ⟨b, off, cap, segs, _, h1, _, _, _, _, _, _, rfl⟩
    · exact ⟨_, 0, 0, rfl, Nat.le_refl _⟩
    · exact ⟨_, _, _, rfl, h1⟩
  · obtain ⟨rfl, _⟩ := hx.v
    exact ⟨none, 0, 0, rfl, Nat.le_refl _⟩
  · rename_i id n i len cap
    split at h
    · rename_i B hm
      cases h
      simp only [holdsC] at hc
      rcases Rep.own_inv hx with ⟨rfl, _, _, _⟩ | ⟨q, hq, hn, hx⟩
      · exact ⟨none, 0, 0, rfl, Nat.le_refl _⟩
      · obtain ⟨q', cs, c1, c2, c3, _⟩ := hw.cellsAt hm hq
        rw [hq] at c1; cases c1
        obtain ⟨c, rfl, g1, _⟩ := hx (by rw [c3, hc])
        exact ⟨_, _, _, rfl, g1⟩
    · cases h
  · cases h
theorem evX_sound (hT : TOK P T N) (hE : EqOK P T N) {en : Entry} {I : Imm} {ρ : Pl} {st : St} {a : Act} {w : World} (hs : StRep T N en I ρ st a w) {G : D} (hG : G.tr) {gs : List CG} {o : Oper} {r : R × List CG}
    (h : evX T st G gs o = some r) (hc : holdsC r.1.c) : Did P T N o I ρ st.m r.1 (fun w => (execOp a.eval o).run P w) w := by
  have hw := hs.wr
  unfold evX at h
  unfold execOp
  cases hop : o.op <;> rw [hop] at h <;> (try dsimp only at h) <;> try (cases h; done)
  case slice t x lo hi mx =>
    simp only [Option.bind_eq_some_iff] at h
    obtain ⟨b, h1, l, h2, hh, h3, q, h4, r', h5, h⟩ := h
    obtain ⟨hb, h⟩ := cond_some h
    cases h
    simp only [holdsC_andC] at hc
    obtain ⟨k1, k2, k3, k4, k5, k6⟩ := hc
    have hb' : (isNo q.1 || !isNo hh.1) = true := hb
    obtain ⟨u, g1, g2⟩ := slA_sound hT hw ((need_rep hs hG h1 k1).rep1 (slA_not_tup h5)) (optI_sound hs hG h2 k2) (optI_sound hs hG h3 k3) (optI_sound hs hG h4 k4) hb' h5 (under_tr hG k6) k5
    exact ⟨_, w, I, ρ, runNext_value g1, .inl ⟨u, rfl, g2⟩, Ev.refl _ _ _, hw⟩
  case buildSlice t len ps =>
    split at h
    · rename_i g gs'
      obtain ⟨_, h⟩ := cond_some h
      simp only [Option.bind_eq_some_iff] at h
      obtain ⟨l, h1, h⟩ := h
      split at h
      · rename_i e hk
        obtain ⟨hb, h⟩ := cond_some h
        cases h
        simp only [Bool.and_eq_true, List.all_eq_true] at hb
        obtain ⟨⟨⟨⟨⟨⟨b0, b1⟩, b2⟩, b4⟩, b3⟩, b5⟩, b6⟩ := hb
        have he := hT.slice t e hk
        have hpos := blt_lt b4
        obtain ⟨hl, hreps⟩ := needs_rep hs hG h1 hc
        simp only [List.length_map] at hl
        obtain ⟨i, z, hi, hz, hzf, hzr⟩ := hT.zero e he b2
        obtain ⟨i', hi', his, hib⟩ := hT.info e he
        rw [hi] at hi'; cases hi'
        have hzl := fit_len hT he (hzr I ρ) hzf
        have hzs : z.cells.size = (T e).size := by simpa using hzl
        have hble : len * (T e).size ≤ 16777216 := by simpa using b1
        have hnp := hw.none_place (isNone_eq b3)
        obtain ⟨cs', f1, f2, f3⟩ := fill_row (T := T) (N := N) (I := I) (ρ := ρ) (e := e) (len := len) rfl he ((ps.toList.map (·.1)).zip l.1) (ps.toList.map fun x => a.eval x.2) (fun _ => (T e).zero)
          (madeCells z.cells (len * (T e).size)) (fun p hp => by
            have := b6 p hp
            exact ⟨blt_lt this.1, this.2⟩) (by simp [hl]) (fun j p v hp hv => by
            have hp6 := b6 p (List.mem_of_getElem? hp)
            rw [List.getElem?_zip_eq_some] at hp
            obtain ⟨hp1, hp2⟩ := hp
            simp only [List.getElem?_map, Option.map_eq_some_iff] at hp1 hv
            obtain ⟨q', hq', rfl⟩ := hv
            have hr := ((hreps j q'.2 p.2 (by simp [hq']) hp2).rep1 (fit_not_tup hp6.2)).cells
            exact ⟨_, hr, by simp, fit_len hT he hr hp6.2⟩) (size_madeCells _ _) (fun i hi => ⟨z.cells.toList, hzr I ρ, hzf, hzl, fun o ho => madeCells_get hzs ho (by
              have : (i + 1) * (T e).size ≤ len * (T e).size := Nat.mul_le_mul_right _ hi
              rw [Nat.succ_mul] at this; omega)⟩)
        have hpl : PlLe ρ (setP ρ (site o) ⟨w.heap.size, e, len, cs'.size⟩) := by
          intro q p hp
          have ha : q ≠ site o := by rintro rfl; rw [hnp] at hp; cases hp
          exact ⟨p, by rw [setP_ne _ _ ha, hp], Nat.le_refl _, fun _ => rfl⟩
        have hfr := WRep.fresh (w' := w.alloc (.cells cs' e)) (B := ⟨e, len, partG ((ps.toList.map (·.1)).zip l.1) (T e).zero, 0⟩) (b := w.heap.size) (cs := cs') hw hnp (Nat.le_refl _) (fun r hr => heap_alloc_lt w _ hr) (heap_alloc_self w _) he (by rw [f2]; exact Nat.le_refl _) rfl
          (fun i hi => by
            obtain ⟨seg, e1, e2, e3, e4⟩ := f3 i hi
            exact ⟨seg, e1.mono (ImLe.refl _) hpl, e2, e3, e4⟩)
        have hparts : (((ps.toList.map (·.1)).zip l.1).map (·.1)).zip (ps.toList.map fun x => a.eval x.2) = (ps.map fun x => (x.1, a.eval x.2)).toList := by
          rw [List.map_fst_zip (by simp [hl])]
          simp [List.zip_map', Array.toList_map]
        rw [hparts] at f1
        refine ⟨.value (.slice (some ⟨w.heap.size, 0, none⟩) len len), w.alloc (.cells cs' e), I, setP ρ (site o) ⟨w.heap.size, e, len, cs'.size⟩, runNext_value' ?_, .inl ⟨_, rfl, .one ⟨[_], .own (ρ := setP ρ (site o) ⟨w.heap.size, e, len, cs'.size⟩) _ (setP_self _ _ _) (Nat.le_refl _) rfl (fun _ => ⟨len, ?_⟩), rfl⟩⟩, Ev.fresh hnp (Nat.le_refl _) (fun r hr => heap_alloc_lt w _ hr) (by simp) rfl rfl ⟨rfl, by first | exact Nat.le_refl _ | exact Nat.le_succ _⟩, by simpa [appM] using hfr.2⟩
        · have hno : ¬ 16777216 < len * (T e).size := by omega
          by_cases h0 : len * (T e).size = 0
          · have hm0 : madeCells z.cells (len * (T e).size) = #[] := Array.eq_empty_of_size_eq_zero (by rw [size_madeCells, h0])
            have f1' : Instr.fill (fun i => some (i * (T e).size, (T e).size)) #[] (ps.map fun x => (x.1, a.eval x.2)).toList = some cs' := by rw [hm0] at f1; exact f1
            simp only [Array.toList_map] at f1'
            have hr0 : (Array.map (fun _ => (default : Value)) (Array.range 0)) = #[] := Array.eq_empty_of_size_eq_zero (by simp)
            simp [Instr.buildSlice, (hT.sli hk).2, hT.runSize he, hno, h0, hr0, f1', newRow]
          · have f1' : Instr.fill (fun i => some (i * (T e).size, (T e).size)) (madeCells z.cells (len * (T e).size)) (ps.map fun x => (x.1, a.eval x.2)).toList = some cs' := f1
            simp only [Array.toList_map, madeCells] at f1'
            simp [Instr.buildSlice, (hT.sli hk).2, hT.runSize he, hno, h0, zeroValue, typeInfo, hi, hz, f1', newRow]
        · have hl1 : len * 1 ≤ len * (T e).size := Nat.mul_le_mul_left _ hpos
          exact ⟨by simp [packV], Nat.le_refl _, by omega, by omega, by simp only [f2, Nat.zero_add]; exact Nat.le_refl _, fun _ => by simp only [f2, Nat.zero_add], fun k hk => by cases hk⟩
      · cases h
    · cases h
  case makeMap t rv =>
    cases rv with
    | some _ => cases h
    | none =>
      obtain ⟨hb, h⟩ := cond_some h
      cases h
      simp only [Bool.and_eq_true] at hb
      have hn := hw.none_place (isNone_eq hb.1.2)
      have hfr := WRep.freshMap (w' := w.alloc (.map #[] 0)) hw hn (b := w.heap.size) (cl := 0) (Nat.le_refl _) (fun r hr => heap_alloc_lt w _ hr) (heap_alloc_self w _) 0 0
      refine ⟨.value (.map (some w.heap.size)), w.alloc (.map #[] 0), I, setP ρ (site o) ⟨w.heap.size, 0, 0, 0⟩, by rfl, .inl ⟨_, rfl, .one ⟨[_], .mp _ (setP_self _ _ _) rfl (fun _ => rfl), rfl⟩⟩, Ev.fresh hn (Nat.le_refl _) (fun r hr => heap_alloc_lt w _ hr) (by simp) rfl rfl ⟨rfl, by first | exact Nat.le_refl _ | exact Nat.le_succ _⟩, by simpa [appM] using hfr⟩
  case lookup t x k ok =>
    split at h
    · rename_i g gs'
      simp only [Option.bind_eq_some_iff] at h
      obtain ⟨b, h1, b2, h2, h⟩ := h
      split at h
      · rename_i id kt vt hb hk
        split at h
        · rename_i es hm
          obtain ⟨hbb, h⟩ := cond_some h
          cases h
          simp only [Bool.and_eq_true] at hbb
          simp only [holdsC_andC] at hc
          obtain ⟨k1, k2, k3⟩ := hc
          have hx := need_rep hs hG h1 k1
          rw [hb] at hx
          have hkk := (need_rep hs hG h2 k2).rep1 (fit_not_tup hbb.1.2)
          obtain ⟨u, g1, g2⟩ := lookup_sound hT hE hw hm hk (hx.rep1 (fun _ => by simp)) hkk hbb.1.1 hbb.1.2 hbb.2 (under_tr hG k3)
          exact ⟨_, w, I, ρ, runNext_value g1, .inl ⟨u, rfl, g2⟩, Ev.refl _ _ _, hw⟩
        · cases h
      · cases h
    · cases h
  case mapUpdate t x k v =>
    split at h
    · rename_i g gs'
      simp only [Option.bind_eq_some_iff] at h
      obtain ⟨b, h1, b2, h2, b3, h3, es', h4, h⟩ := h
      split at h
      · rename_i id kt vt hb hk
        split at h
        · rename_i es hm
          obtain ⟨hbb, h⟩ := cond_some h
          cases h
          simp only [Bool.and_eq_true] at hbb
          simp only [holdsC_andC] at hc
          obtain ⟨k1, k2, k3, k4⟩ := hc
          have hx := need_rep hs hG h1 k1
          rw [hb] at hx
          obtain ⟨⟨⟨⟨b1, b2'⟩, b3'⟩, b4⟩, b5⟩ := hbb
          obtain ⟨w', g1, g2, g3⟩ := mapUpdate_sound hT hE hw hm hk (hx.rep1 (fun _ => by simp)) ((need_rep hs hG h2 k2).rep1 (fit_not_tup b3')) ((need_rep hs hG h3 k3).rep1 (fit_not_tup b4)) b2' b3' k4
          exact ⟨_, w', I, ρ, runNext_skip g1, .inr ⟨rfl, dst_none b5⟩, g2, by simpa [appM] using g3⟩
        · cases h
      · cases h
    · cases h
  case insert t x k v =>
    split at h
    · rename_i g gs'
      simp only [Option.bind_eq_some_iff] at h
      obtain ⟨b, h1, b2, h2, b3, h3, es', h4, h⟩ := h
      split at h
      · rename_i id kt vt hb hk
        split at h
        · rename_i es hm
          obtain ⟨hbb, h⟩ := cond_some h
          cases h
          simp only [Bool.and_eq_true] at hbb
          simp only [holdsC_andC] at hc
          obtain ⟨k1, k2, k3, k4⟩ := hc
          have hx := need_rep hs hG h1 k1
          rw [hb] at hx
          obtain ⟨⟨⟨⟨b1, b2'⟩, b3'⟩, b4⟩, b5⟩ := hbb
          obtain ⟨w', g1, g2, g3⟩ := mapUpdate_sound hT hE hw hm hk (hx.rep1 (fun _ => by simp)) ((need_rep hs hG h2 k2).rep1 (fit_not_tup b3')) ((need_rep hs hG h3 k3).rep1 (fit_not_tup b4)) b2' b3' k4
          exact ⟨_, w', I, ρ, runNext_skip g1, .inr ⟨rfl, dst_none b5⟩, g2, by simpa [appM] using g3⟩
        · cases h
      · cases h
    · cases h
  case call c =>
    split at h
    · rename_i x y t t' hcal hargs htys
      simp only [Option.bind_eq_some_iff] at h
      obtain ⟨b, h1, b', h2, h⟩ := h
      split at h
      · rename_i e hk
        simp only [Option.bind_eq_some_iff] at h
        obtain ⟨q, hq, r', hr', h⟩ := h
        obtain ⟨hbb, h⟩ := cond_some h
        cases h
        simp only [Bool.and_eq_true] at hbb
        have ett := Nat.eq_of_beq_eq_true hbb.1.2
        subst ett
        have ha : c.args = #[x, y] := by apply Array.ext'; simpa using hargs
        have ht : c.argTypes = #[t, t] := by apply Array.ext'; simpa using htys
        simp only [holdsC_andC] at hc
        obtain ⟨k1, k2, k3, k4, k5⟩ := hc
        obtain ⟨w', I', ρ', g1, g2, g3⟩ := copy_sound (P := P) (ty := o.type) hT hw hk ((need_rep hs hG h1 k1).rep1 (cpyA_not_tup hr')) ((need_rep hs hG h2 k2).rep1 (srcC_not_tup hq)) hq hr' k5 k3 k4
        exact ⟨.value (.int .i64 r'.1), w', I', ρ', by simp [resolve, hcal, invoke, builtin, ha, ht, g1], .inl ⟨_, rfl, repV_v rfl⟩, g2, g3⟩
      · cases h
    · rename_i x y t t' hcal hargs htys
      split at h
      · rename_i g gs'
        obtain ⟨_, h⟩ := cond_some h
        simp only [Option.bind_eq_some_iff] at h
        obtain ⟨b, h1, b', h2, h⟩ := h
        split at h
        · rename_i e hk
          simp only [Option.bind_eq_some_iff] at h
          obtain ⟨q, hq, r', hr', h⟩ := h
          obtain ⟨hbb, h⟩ := cond_some h
          cases h
          simp only [Bool.and_eq_true] at hbb
          have ett := Nat.eq_of_beq_eq_true hbb.1
          subst ett
          have ha : c.args = #[x, y] := by apply Array.ext'; simpa using hargs
          have ht : c.argTypes = #[t, t] := by apply Array.ext'; simpa using htys
          simp only [holdsC_andC] at hc
          obtain ⟨k1, k2, k3, k4, k5⟩ := hc
          obtain ⟨sb, sl, sc, hy, hle⟩ := nopA_slice hw ((need_rep hs hG h1 k1).rep1 (nopA_not_tup hr')) hr' k4
          obtain ⟨a0, c0, news, g1, _⟩ := srcA_sound0 (P := P) hT hw (blt_lt hbb.2) ((need_rep hs hG h2 k2).rep1 (srcA_not_tup hq)) hq k3
          obtain ⟨ti, hti, _⟩ := hT.info e (hT.slice t e hk)
          have h0 := run_append_src0 (P := P) t o.type e ti (hT.sli hk).1 hti sb sl sc hle a0 c0 w
          have hrun : (Builtin.append_ #[t, t] o.type #[a.eval x, a.eval y]).run P w = .ok (a.eval x) w := by
            rw [hy]
            simp only [holdsC] at k5
            rcases g1 with g1 | ⟨g1, _⟩
            · rw [g1, k5]; exact h0.1
            · rw [g1]; exact h0.2
          exact ⟨.value (a.eval x), w, I, ρ, by simp [resolve, hcal, invoke, builtin, ha, ht, hrun], .inl ⟨_, rfl, need_rep hs hG h1 k1⟩, Ev.refl _ _ _, by simpa [appM] using hw⟩
        · cases h
      · cases h
    · rename_i x t hcal hargs htys
      simp only [Option.bind_eq_some_iff] at h
      obtain ⟨b, h1, h⟩ := h
      split at h
      · rename_i id n i len cap e hb hk
        split at h
        · rename_i B hm
          obtain ⟨hbb, h⟩ := cond_some h
          cases h
          simp only [Bool.and_eq_true] at hbb
          have ety := Nat.eq_of_beq_eq_true hbb.1.2
          subst ety
          have ha : c.args = #[x] := by apply Array.ext'; simpa using hargs
          have ht : c.argTypes = #[t] := by apply Array.ext'; simpa using htys
          simp only [holdsC_andC] at hc
          obtain ⟨k1, k2, k3⟩ := hc
          have hx := need_rep hs hG h1 k1
          rw [hb] at hx
          obtain ⟨w', g1, g2, g3⟩ := clear_sound (P := P) (ty := o.type) hT hw hm hk (hx.rep1 (fun _ => by simp)) (by simpa [nC, hm, holdsC] using k2) k3 hbb.2
          exact ⟨.value (.tuple #[]), w', I, ρ, by simp [resolve, hcal, invoke, builtin, ha, ht, g1], .inl ⟨_, rfl, .tup _ rfl (fun i c hi => by simp at hi)⟩, g2, by simpa [appM] using g3⟩
        · cases h
      · cases h
    · cases h

theorem evX_d {st : St} {G : D} (hG : ¬ G.tr) {gs : List CG} {o : Oper} {r : R × List CG} (h : evX T st G gs o = some r) : r.1.d = [] := by
  unfold evX at h
  cases hop : o.op <;> rw [hop] at h <;> (try dsimp only at h) <;> try (cases h; done)
  case slice t x lo hi mx =>
    simp only [Option.bind_eq_some_iff] at h
    obtain ⟨b, h1, l, h2, hh, h3, q, h4, r', h5, h⟩ := h
    obtain ⟨hb, h⟩ := cond_some h
    cases h
    rfl
  case buildSlice t len ps =>
    split at h
    · obtain ⟨_, h⟩ := cond_some h
      simp only [Option.bind_eq_some_iff] at h
      obtain ⟨l, h1, h⟩ := h
      split at h
      · obtain ⟨hb, h⟩ := cond_some h
        simp only [Bool.and_eq_true] at hb
        exact absurd (sureD_tr hb.1.1.1.1.1.1) hG
      · cases h
    · cases h
  case makeMap t rv =>
    cases rv with
    | some _ => cases h
    | none =>
      obtain ⟨hb, h⟩ := cond_some h
      simp only [Bool.and_eq_true] at hb
      exact absurd (sureD_tr hb.1.1) hG
  case lookup t x k ok =>
    split at h
    · simp only [Option.bind_eq_some_iff] at h
      obtain ⟨b, h1, b2, h2, h⟩ := h
      split at h
      · split at h
        · obtain ⟨hbb, h⟩ := cond_some h
          cases h
          rfl
        · cases h
      · cases h
    · cases h
  case mapUpdate t x k v =>
    split at h
    · simp only [Option.bind_eq_some_iff] at h
      obtain ⟨b, h1, b2, h2, b3, h3, es', h4, h⟩ := h
      split at h
      · split at h
        · obtain ⟨hbb, h⟩ := cond_some h
          simp only [Bool.and_eq_true] at hbb
          exact absurd (sureD_tr hbb.1.1.1.1) hG
        · cases h
      · cases h
    · cases h
  case insert t x k v =>
    split at h
    · simp only [Option.bind_eq_some_iff] at h
      obtain ⟨b, h1, b2, h2, b3, h3, es', h4, h⟩ := h
      split at h
      · split at h
        · obtain ⟨hbb, h⟩ := cond_some h
          simp only [Bool.and_eq_true] at hbb
          exact absurd (sureD_tr hbb.1.1.1.1) hG
        · cases h
      · cases h
    · cases h
  case call c =>
    split at h
    · simp only [Option.bind_eq_some_iff] at h
      obtain ⟨b, h1, b', h2, h⟩ := h
      split at h
      · simp only [Option.bind_eq_some_iff] at h
        obtain ⟨q, hq, r', hr', h⟩ := h
        obtain ⟨hbb, h⟩ := cond_some h
        simp only [Bool.and_eq_true] at hbb
        exact absurd (sureD_tr hbb.1.1) hG
      · cases h
    · split at h
      · obtain ⟨_, h⟩ := cond_some h
        simp only [Option.bind_eq_some_iff] at h
        obtain ⟨b, h1, b', h2, h⟩ := h
        split at h
        · simp only [Option.bind_eq_some_iff] at h
          obtain ⟨q, hq, r', hr', h⟩ := h
          obtain ⟨hbb, h⟩ := cond_some h
          cases h
          rfl
        · cases h
      · cases h
    · simp only [Option.bind_eq_some_iff] at h
      obtain ⟨b, h1, h⟩ := h
      split at h
      · split at h
        · obtain ⟨hbb, h⟩ := cond_some h
          simp only [Bool.and_eq_true] at hbb
          exact absurd (sureD_tr hbb.1.1) hG
        · cases h
      · cases h
    · cases h
end
end Go.Ab

/- Ab, part 17: one operation of a region; a region in the order of its text. -/
set_option autoImplicit false
set_option linter.unusedVariables false
namespace Go.Ab
section
variable {P : Program} {T : Nat → TI} {N : Nat}

theorem evK_d {AC : ACT} {st : St} {G : D} (hG : ¬ G.tr) {gs : List CG} {o : Oper} {r : R × List CG} (h : evK T AC st G gs o = some r) : r.1.d = [] := by
  unfold evK at h
  split at h
  · rename_i c g gs' hop
    split at h
    · simp only [Option.bind_eq_some_iff] at h
      obtain ⟨fa, h1, l, h2, h⟩ := h
      split at h
      · simp only [Option.bind_eq_some_iff] at h
        obtain ⟨fz, h3, h⟩ := h
        obtain ⟨hb, h⟩ := cond_some h
        cases h
        rfl
      · cases hlk : isLook g with
        | true =>
          simp only [hlk, cond_true, Option.bind_eq_some_iff] at h
          obtain ⟨vw, h3, B, h4, h⟩ := h
          obtain ⟨hb, h⟩ := cond_some h
          simp only [Bool.and_eq_true] at hb
          exact absurd (sureD_tr hb.1.1.1) hG
        | false =>
          simp only [hlk, cond_false, Option.bind_eq_some_iff] at h
          obtain ⟨vw, h3, B, h4, h⟩ := h
          obtain ⟨hb, h⟩ := cond_some h
          simp only [Bool.and_eq_true] at hb
          exact absurd (sureD_tr hb.1.1.1.1.1) hG
      · cases h
    · cases h
  · cases h
theorem evW_tr {st : St} {G : D} {o : Oper} {r : R} (h : evW T st G o = some r) : G.tr := by
  unfold evW at h
  exact sureD_tr (cond_some h).1
theorem evO_d {AC : ACT} {st : St} {G : D} (hG : ¬ G.tr) {gs : List CG} {o : Oper} {r : R × List CG} (h : evO T AC st G gs o = some r) : r.1.d = [] := by
  unfold evO at h
  split at h
  · simp only [Option.bind_eq_some_iff, Option.some.injEq] at h
    obtain ⟨r', hr, rfl⟩ := h
    rfl
  · simp only [Option.bind_eq_some_iff, Option.some.injEq] at h
    obtain ⟨r', hr, rfl⟩ := h
    exact absurd (evW_tr hr) hG
  · exact evX_d hG h
  · split at h
    · cases hmn : isMine _ with
      | true => rw [hmn] at h; exact evX_d hG h
      | false =>
        rw [hmn] at h
        simp only [cond_false, Option.bind_eq_some_iff, Option.some.injEq] at h
        obtain ⟨r', hr, rfl⟩ := h
        exact absurd (evW_tr hr) hG
    · simp only [Option.bind_eq_some_iff, Option.some.injEq] at h
      obtain ⟨r', hr, rfl⟩ := h
      exact absurd (evW_tr hr) hG
  · split at h
    · cases hmn : isNop _ with
      | true => rw [hmn] at h; exact evX_d hG h
      | false =>
        rw [hmn] at h
        simp only [cond_false, Option.bind_eq_some_iff, Option.some.injEq] at h
        obtain ⟨r', hr, rfl⟩ := h
        exact absurd (evW_tr hr) hG
    · simp only [Option.bind_eq_some_iff, Option.some.injEq] at h
      obtain ⟨r', hr, rfl⟩ := h
      exact absurd (evW_tr hr) hG
  · exact evK_d hG h

theorem tmps_put {a : Act} {d k : Nat} {v : Value} (hd : d < a.tmps.size) : (a.put (some d) v).tmps.getD k undef = if k = d then v else a.tmps.getD k undef := by
  simp only [Act.put]
  by_cases hk : k = d
  · subst hk; simp [hd]
  · rw [if_neg hk]
    simp [Array.getElem?_setIfInBounds_ne (Ne.symm hk)]

def St.after (st : St) (o : Oper) (G : D) (r : R) : St := { (st.put o.dst (G, r.v)) with m := appM st.m r.d }
theorem after_t (st : St) (o : Oper) (G : D) (r : R) (k : Nat) : (st.after o G r).t k = match o.dst with | some d => if k = d then some (G, r.v) else st.t k | none => st.t k := by
  unfold St.after St.put
  cases o.dst with
  | none => rfl
  | some d =>
    simp only [setT]
    by_cases h : k = d
    · subst h; simp
    · simp [h, nbeq_ne h]

theorem strep_after {e : Entry} {I I' : Imm} {ρ ρ' : Pl} {st : St} {a : Act} {w w' : World} (hs : StRep T N e I ρ st a w) {o : Oper} {G : D} {r : R} {v : Value} (hnt : dstOk e.nt o.dst = true)
    (hv : o.dst = none ∨ ((G.tr → RepV T N I' ρ' r.v v) ∧ (¬ G.tr → v = undef))) (hev : Ev I ρ w I' ρ' w') (hw : WRep T N I' ρ' (appM st.m r.d) w') : StRep T N e I' ρ' (st.after o G r) (a.put o.dst v) w' where
  wr := hw
  tm := fun t d x ht => by
    rw [after_t] at ht
    cases hd : o.dst with
    | none =>
      rw [hd] at ht
      obtain ⟨h1, h2⟩ := hs.tm t d x ht
      exact ⟨fun h => (h1 h).mono hev.imm hev.pl, h2⟩
    | some k =>
      rw [hd] at ht hv hnt
      simp only at ht
      have hk : k < a.tmps.size := by rw [hs.nt]; simpa [dstOk, Nat.blt_eq] using hnt
      rw [tmps_put hk]
      by_cases htk : t = k
      · rw [if_pos htk] at ht ⊢
        cases ht
        rcases hv with hv | hv
        · cases hv
        · exact hv
      · rw [if_neg htk] at ht ⊢
        obtain ⟨h1, h2⟩ := hs.tm t d x ht
        exact ⟨fun h => (h1 h).mono hev.imm hev.pl, h2⟩
  nt := by
    rw [← hs.nt]
    cases o.dst <;> simp [Act.put]
  df := by
    have h1 := hs.df.1.ev hev
    have h2 := hs.df.2
    cases o.dst <;> exact ⟨h1, h2⟩
  ev := hs.ev.trans hev
  eb := hs.eb

theorem guardD_wanted {e : Entry} {I : Imm} {ρ : Pl} {st : St} {a : Act} {w : World} (hs : StRep T N e I ρ st a w) {ops : Array Oper} {o : Oper} {G : D} (h : guardD ops.toList st o = some G) : G.tr ↔ Region.wanted o (yielded ops a.tmps) = true := by
  unfold guardD at h
  unfold Region.wanted
  split at h
  · rename_i hg
    cases h
    simp [hg, D.tr]
  · rename_i j wt hg
    simp only [Option.bind_eq_some_iff] at h
    obtain ⟨oj, h1, d, h2, h3⟩ := h
    have h1' : ops[j]? = some oj := by rw [← h1, Array.getElem?_toList]
    have hget : ∀ x : Value, x ≠ undef → a.tmps.getD d undef = x → a.tmps[d]? = some x := by
      intro x hx h
      cases hd : a.tmps[d]? with
      | none => simp [hd] at h; exact absurd h.symm hx
      | some y => simp [hd] at h; rw [h]
    have hund : ∀ b, Value.bool b ≠ undef := fun b => by simp [undef]
    have hy : ∀ x, (a.tmps.getD d undef = .bool x → yielded ops a.tmps j = some x) := by
      intro x hx
      simp [yielded, h1', h2, hget _ (hund x) hx]
    have hn : a.tmps.getD d undef = undef → yielded ops a.tmps j = none := by
      intro hx
      cases hd : a.tmps[d]? with
      | none => simp [yielded, h1', h2, hd]
      | some y =>
        simp [hd] at hx
        subst hx
        simp [yielded, h1', h2, hd, undef]
    have hcond : ∀ (w b : Bool), cond w b (!b) = true ↔ b = w := by intro w b; cases w <;> cases b <;> simp
    split at h3
    · rename_i b hb
      have h3 : G = .when (cond wt b (!b)) := by cases wt <;> (simp only [cond_true, cond_false, Option.some.injEq] at h3; exact h3.symm)
      subst h3
      obtain ⟨e, _⟩ := ((hs.tm d _ _ hb).1 trivial).v
      simp only [hg, hy b e, D.tr, hcond, beq_iff_eq, Option.some.injEq]
    · rename_i g b hb
      have h3 : G = .when (g && cond wt b (!b)) := by cases wt <;> (simp only [cond_true, cond_false, Option.some.injEq] at h3; exact h3.symm)
      subst h3
      by_cases hgt : g = true
      · obtain ⟨e, _⟩ := ((hs.tm d _ _ hb).1 hgt).v
        simp only [hg, hy b e, D.tr, hgt, Bool.true_and, hcond, beq_iff_eq, Option.some.injEq]
      · have e := (hs.tm d _ _ hb).2 hgt
        have hgf : g = false := by simpa using hgt
        simp [hg, hn e, D.tr, hgf]
    · cases h3

theorem evO_nodefer {AC : ACT} {st : St} {G : D} {gs : List CG} {o : Oper} {r : R × List CG} (h : evO T AC st G gs o = some r) : ∀ c, o.op ≠ .defer c := by
  intro c hc
  simp [evO, cls, evR, hc] at h
def wideR (r : Option Nat) : Fence := { Fence.wide with round := r }
theorem callsIn_wideR {r : Option Nat} {n : Nat} {f : FuncId} {args : Array Value} {w : World} {R : Ending → World → Prop} : CallsIn (wideR r) n P f args w R ↔ Calls P f args w R := callsIn_wide (n := n)
theorem step_sound (hT : TOK P T N) (hE : EqOK P T N) {e : Entry} {I : Imm} {ρ : Pl} {st : St} {a : Act} {w : World} (hs : StRep T N e I ρ st a w) {ops : Array Oper} {o : Oper} {G : D} {gs : List CG} {r : R × List CG}
    (hg : guardD ops.toList st o = some G) (h : evO T (AC P T N) st G gs o = some r) (hc : holdsC r.1.c) (hnt : dstOk e.nt o.dst = true) {K : Act → World → Prop} {Q : Exit → Act → World → Prop}
    (hK : ∀ I' ρ' a' w', StRep T N e I' ρ' (st.after o G r.1) a' w' → K a' w') (rd : Option Nat) (n : Nat) :
    if Region.wanted o (yielded ops a.tmps) = true then o.wpIn (wideR rd) n P a w K Q else K (a.put o.dst undef) w := by
  have hwant := guardD_wanted hs hg
  by_cases hG : G.tr
  · rw [if_pos (hwant.1 hG)]
    unfold Oper.wpIn
    refine ⟨fun _ _ => trivial, ?_⟩
    rw [Oper.semAt_eq _ _ _ (evO_nodefer h)]
    have did : ∀ {r1 : R}, r1 = r.1 → Did P T N o I ρ st.m r1 (fun w => (execOp a.eval o).run P w) w → Oper.uponIn (wideR rd) n P o a K Q ((execOp a.eval o).run P w) := by
      rintro r1 rfl ⟨nx, w', I', ρ', h1, h2, h3, h4⟩
      simp only at h1
      rw [h1]
      rcases h2 with ⟨u, rfl, h2⟩ | ⟨rfl, h2⟩
      · exact hK _ _ _ _ (strep_after hs hnt (.inr ⟨fun _ => h2, fun h => absurd hG h⟩) h3 h4)
      · exact hK _ _ _ _ (strep_after hs hnt (.inl h2) h3 h4)
    unfold evO at h
    split at h
    · simp only [Option.bind_eq_some_iff, Option.some.injEq] at h
      obtain ⟨r', hr, rfl⟩ := h
      obtain ⟨u, h1, h2⟩ := evR_sound hT hE hs hG hr hc
      rw [h1]
      exact hK _ _ _ _ (strep_after hs hnt (.inr ⟨fun _ => h2, fun h => absurd hG h⟩) (Ev.refl _ _ _) hs.wr)
    · simp only [Option.bind_eq_some_iff, Option.some.injEq] at h
      obtain ⟨r', hr, rfl⟩ := h
      exact did rfl (evW_sound hT hs hr hc).2
    · exact did rfl (evX_sound hT hE hs hG h hc)
    · split at h
      · cases hmn : isMine _ with
        | true => rw [hmn] at h; exact did rfl (evX_sound hT hE hs hG h hc)
        | false =>
          rw [hmn] at h
          simp only [cond_false, Option.bind_eq_some_iff, Option.some.injEq] at h
          obtain ⟨r', hr, rfl⟩ := h
          exact did rfl (evW_sound hT hs hr hc).2
      · simp only [Option.bind_eq_some_iff, Option.some.injEq] at h
        obtain ⟨r', hr, rfl⟩ := h
        exact did rfl (evW_sound hT hs hr hc).2
    · split at h
      · cases hmn : isNop _ with
        | true => rw [hmn] at h; exact did rfl (evX_sound hT hE hs hG h hc)
        | false =>
          rw [hmn] at h
          simp only [cond_false, Option.bind_eq_some_iff, Option.some.injEq] at h
          obtain ⟨r', hr, rfl⟩ := h
          exact did rfl (evW_sound hT hs hr hc).2
      · simp only [Option.bind_eq_some_iff, Option.some.injEq] at h
        obtain ⟨r', hr, rfl⟩ := h
        exact did rfl (evW_sound hT hs hr hc).2
    · obtain ⟨f, vs, h1, h2⟩ := evK_sound hT hs hG h hc
      simp only at h1
      rw [h1]
      refine ⟨fun h => (by cases h), callsIn_wideR.2 (h2.mono ?_)⟩
      rintro ex w' ⟨v, I', ρ', rfl, g1, g2, g3⟩
      exact hK _ _ _ _ (strep_after hs hnt (.inr ⟨fun _ => g2, fun h => absurd hG h⟩) g1 g3)
  · rw [if_neg (fun e => hG (hwant.2 e))]
    have hd := evO_d hG h
    exact hK _ _ _ _ (strep_after hs hnt (.inr ⟨fun h => absurd h hG, fun _ => rfl⟩) (Ev.refl _ _ _) (by rw [hd]; exact hs.wr))

theorem evL_sound (hT : TOK P T N) (hE : EqOK P T N) {e : Entry} {ops : Array Oper} {Q : Exit → Act → World → Prop} : ∀ (l : List Oper) (s s' : RS) {I : Imm} {ρ : Pl} {a : Act} {w : World}, StRep T N e I ρ s.st a w →
    evL T (AC P T N) e.nt ops.toList l s = some s' → holdsC s'.c → (∀ I' ρ' a' w', StRep T N e I' ρ' s'.st a' w' → Q .normal a' w') → (rd : Option Nat) → (n : Nat) → holdsC s.c ∧ wpListIn (wideR rd) n P ops Q l a w
  | [], s, s', I, ρ, a, w, hs, h, hc, hQ, rd, n => by cases h; exact ⟨hc, hQ _ _ _ _ hs⟩
  | o :: r, s, s', I, ρ, a, w, hs, h, hc, hQ, rd, n => by
    simp only [evL, Option.bind_eq_some_iff] at h
    obtain ⟨G, h1, x, h2, h3⟩ := h
    obtain ⟨hnt, h3⟩ := cond_some h3
    have key : ∀ {I' : Imm} {ρ' : Pl} {a' : Act} {w' : World}, StRep T N e I' ρ' (s.st.after o G x.1) a' w' → holdsC (andC s.c x.1.c) ∧ wpListIn (wideR rd) n P ops Q r a' w' := fun hs' => evL_sound hT hE r _ s' hs' h3 hc hQ rd n
    have hcc : holdsC (andC s.c x.1.c) := by
      clear key
      have : ∀ (l : List Oper) (s1 : RS), evL T (AC P T N) e.nt ops.toList l s1 = some s' → holdsC s1.c := by
        intro l
        induction l with
        | nil => intro s1 h; cases h; exact hc
        | cons o r ih =>
          intro s1 h
          simp only [evL, Option.bind_eq_some_iff] at h
          obtain ⟨G, h1, x, h2, h3⟩ := h
          obtain ⟨_, h3⟩ := cond_some h3
          have := ih _ h3
          simp only at this
          rw [holdsC_andC] at this
          exact this.1
      exact this _ _ h3
    rw [holdsC_andC] at hcc
    refine ⟨hcc.1, ?_⟩
    have hst := step_sound (ops := ops) (Q := Q) (K := wpListIn (wideR rd) n P ops Q r) hT hE hs h1 h2 hcc.2 hnt (fun I' ρ' a' w' hs' => (key hs').2) rd n
    unfold wpListIn
    by_cases hw : Region.wanted o (yielded ops a.tmps) = true
    · rw [if_pos hw] at hst ⊢; exact hst
    · rw [if_neg hw] at hst ⊢; exact ⟨fun _ _ => trivial, hst⟩
end
end Go.Ab

/- Ab, part 18: what an operation looks at. -/
set_option autoImplicit false
set_option linter.unusedVariables false
namespace Go.Ab

def tmpsOf (o : Oper) : List Nat := o.op.operands.toList.filterMap fun | .tmp t => some t | _ => none
theorem ev_same {o : Oper} {st st' : St} (h : ∀ k ∈ tmpsOf o, st'.t k = st.t k) {x : Operand} (hx : x ∈ o.op.operands) : ev st' x = ev st x := by
  cases x with
  | tmp t =>
    refine h t ?_
    simp only [tmpsOf, List.mem_filterMap]
    exact ⟨.tmp t, by simpa using hx, rfl⟩
  | _ => rfl
theorem needs_same {st st' : St} {G : D} : ∀ {xs : List Operand}, (∀ x ∈ xs, ev st' x = ev st x) → needs G st' xs = needs G st xs
  | [], _ => rfl
  | x :: xs, h => by
    simp only [needs]
    rw [h x (by simp), needs_same (fun y hy => h y (by simp [hy]))]
theorem optI_same {st st' : St} {G : D} {x : Option Operand} (h : ∀ y, x = some y → ev st' y = ev st y) : optI G st' x = optI G st x := by
  cases x with
  | none => rfl
  | some y => simp only [optI]; rw [h y rfl]

section
variable {T : Nat → TI} {m m' : Id → Option Ob}
theorem ldA_same {t : Nat} {x : AV} {r : AV × List Id} (h : ldA T m t x = some r) (hm : ∀ id ∈ r.2, m' id = m id) : ldA T m' t x = some r ∧ nOf m' x = nOf m x := by
  unfold ldA at h ⊢
  split at h
  · rename_i id n i p
    have h0 := h
    split at h
    · obtain ⟨hb, h⟩ := cond_some h
      cases h
      have e := hm id (by simp)
      simp only [nOf, nC, e]
      exact ⟨h0, trivial⟩
    · cases h
  · exact ⟨h, rfl⟩
  · cases h
theorem fieldP_same {t k : Nat} {x : AV} {r : AV × List Id} (h : fieldP T t k m x = some r) (hm : ∀ id ∈ r.2, m' id = m id) : fieldP T t k m' x = some r ∧ nOf m' x = nOf m x := by
  unfold fieldP at h ⊢
  split at h
  · rename_i id n i p
    have h0 := h
    split at h
    · obtain ⟨hb, h⟩ := cond_some h
      cases h
      have e := hm id (by simp)
      simp only [nOf, nC, e]
      exact ⟨h0, trivial⟩
    · cases h
  · exact ⟨h, rfl⟩
  · cases h
theorem idxP_same {t : Nat} {j : Int} {x : AV} {r : AV × List Id × Prop} (h : idxP T t j m x = some r) (hm : ∀ id ∈ r.2.1, m' id = m id) : idxP T t j m' x = some r ∧ nOf m' x = nOf m x := by
  unfold idxP at h ⊢
  split at h
  · rename_i id n i p
    have h0 := h
    split at h
    · obtain ⟨hb, h⟩ := cond_some h
      cases h
      have e := hm id (by simp)
      simp only [nOf, nC, e]
      exact ⟨h0, trivial⟩
    · cases h
  · exact ⟨h, rfl⟩
  · exact ⟨h, rfl⟩
  · rename_i id n i len cap
    have h0 := h
    split at h
    · obtain ⟨hb, h⟩ := cond_some h
      cases h
      have e := hm id (by simp)
      simp only [nOf, nC, e]
      exact ⟨h0, trivial⟩
    · cases h
  · rename_i id n i p lo len hi
    have h0 := h
    split at h
    · obtain ⟨hb, h⟩ := cond_some h
      cases h
      have e := hm id (by simp)
      simp only [nOf, nC, e]
      exact ⟨h0, trivial⟩
    · cases h
  · cases h
theorem lenA_same {t : Nat} {x : AV} {r : AV × List Id} (h : lenA T m t x = some r) (hm : ∀ id ∈ r.2, m' id = m id) : lenA T m' t x = some r ∧ nOf m' x = nOf m x := by
  unfold lenA at h
  split at h
  · rename_i hk; cases h; exact ⟨by simp [lenA, hk], rfl⟩
  · rename_i id n i len cap hk
    split at h
    · rename_i B hB
      cases h
      have e := hm id (by simp)
      exact ⟨by simp [lenA, hk, e, hB], by simp only [nOf, nC, e]⟩
    · cases h
  · rename_i id n i p lo len hi hk
    split at h
    · rename_i B hB
      cases h
      have e := hm id (by simp)
      exact ⟨by simp [lenA, hk, e, hB], by simp only [nOf, nC, e]⟩
    · cases h
  · rename_i hk; cases h; exact ⟨by simp [lenA, hk], rfl⟩
  · rename_i hk; cases h; exact ⟨by simp [lenA, hk], rfl⟩
  · cases h
theorem srcA_same {e : Nat} {x : AV} {r : Nat × (Nat → AV) × List Id} (h : srcA T m e x = some r) (hm : ∀ id ∈ r.2.2, m' id = m id) : srcA T m' e x = some r ∧ nOf m' x = nOf m x := by
  unfold srcA at h ⊢
  split at h
  · exact ⟨h, rfl⟩
  · rename_i id n i len cap
    have h0 := h
    split at h
    · obtain ⟨hb, h⟩ := cond_some h
      cases h
      have e := hm id (by simp)
      simp only [nOf, nC, e]
      exact ⟨h0, trivial⟩
    · cases h
  · rename_i id n i p lo len hi
    have h0 := h
    split at h
    · obtain ⟨hb, h⟩ := cond_some h
      cases h
      have e := hm id (by simp)
      simp only [nOf, nC, e]
      exact ⟨h0, trivial⟩
    · cases h
  · cases h
theorem arrNil_same {op : BinOp} {t : Nat} {x y : AV} {r : AV × Id × Option Prop} (h : arrNil T m op t x y = some r) (hm : m' r.2.1 = m r.2.1) : arrNil T m' op t x y = some r := by
  have h0 := h
  unfold arrNil at h ⊢
  split at h
  · split at h
    · simp only [Option.bind_eq_some_iff, Option.some.injEq] at h
      obtain ⟨ra, hra, rfl⟩ := h
      simp only at hm
      unfold arrNil at h0
      rw [hm]
      exact h0
    · cases h
  · cases h
theorem arrNil_no {m : Id → Option Ob} {op : BinOp} {t : Nat} {x y : AV} {r : AV × Option Prop} (h : evBin T op t x y = some r) : arrNil T m op t x y = none := by
  unfold arrNil
  split
  · exfalso
    simp [evBin, noC, nilEq] at h
  · rfl
theorem srcC_same {e : Nat} {x : AV} {r : Nat × (Nat → AV) × List Id} (h : srcC T m e x = some r) (hm : ∀ id ∈ r.2.2, m' id = m id) : srcC T m' e x = some r ∧ nOf m' x = nOf m x := by
  unfold srcC at h ⊢
  split at h
  · rename_i id n i p lo len hi
    have h0 := h
    split at h
    · obtain ⟨hb, h⟩ := cond_some h
      cases h
      have e := hm id (by simp)
      simp only [nOf, nC, e]
      exact ⟨h0, trivial⟩
    · cases h
  · exact srcA_same h hm
theorem slA_same {t : Nat} {lo hi mx : Option Int} {x : AV} {r : AV × List Id × Prop} (h : slA T t lo hi mx m x = some r) (hm : ∀ id ∈ r.2.1, m' id = m id) : slA T t lo hi mx m' x = some r ∧ nOf m' x = nOf m x := by
  unfold slA at h ⊢
  split at h
  · exact ⟨h, rfl⟩
  · rename_i id n i len cap
    have h0 := h
    split at h
    · obtain ⟨hb, h⟩ := cond_some h
      have e : m' id = m id := by
        refine hm id ?_
        split at h <;> cases h <;> simp
      simp only [nOf, nC, e]
      exact ⟨h0, trivial⟩
    · cases h
  · rename_i id n i p
    have h0 := h
    split at h
    · obtain ⟨hb, h⟩ := cond_some h
      cases h
      have e := hm id (by simp)
      simp only [nOf, nC, e]
      exact ⟨h0, trivial⟩
    · cases h
  · exact ⟨h, rfl⟩
  · cases h
theorem nopA_same {m m' : Id → Option Ob} {x : AV} {r : List Id × Option Prop} (h : nopA m x = some r) (hm : ∀ id ∈ r.1, m' id = m id) : nopA m' x = some r := by
  unfold nopA at h ⊢
  split at h
  · exact h
  · exact h
  · rename_i id n i len cap
    split at h
    · rename_i B hB
      cases h
      simp only [hm id (by simp), hB]
    · cases h
  · cases h
theorem cpyA_same {e : Nat} {q : Nat × (Nat → AV) × List Id} {x : AV} {r : Nat × List (Id × Ob) × List Id × Prop} (h : cpyA T m e q x = some r) (hm : ∀ id ∈ r.2.2.1, m' id = m id) : cpyA T m' e q x = some r ∧ nOf m' x = nOf m x ∧ ∀ id ∈ q.2.2, id ∈ r.2.2.1 := by
  unfold cpyA at h ⊢
  split at h
  · rename_i id n i p lo len hi
    have h0 := h
    split at h
    · simp only [Option.bind_eq_some_iff] at h
      obtain ⟨ta, h1, h⟩ := h
      split at h
      · obtain ⟨hb, h⟩ := cond_some h
        cases h
        have e := hm id (by simp)
        simp only [nOf, nC, e]
        exact ⟨h0, trivial, fun a ha => by simp [ha]⟩
      · cases h
    · cases h
  · cases h
theorem dview_same : ∀ (x : AV), (∀ id ∈ idsOf x, m' id = m id) → dview m' x = dview m x ∧ dok m' x = dok m x
  | .v _, _ => ⟨rfl, rfl⟩
  | .agg t n get, h => by
    have ih := fun i (hi : i < n) => dview_same (get i) (fun id hid => h id (by
      simp only [idsOf, List.mem_flatMap, List.mem_range]
      exact ⟨i, hi, hid⟩))
    refine ⟨?_, ?_⟩
    · simp only [dview]
      congr 1
      funext i
      by_cases hi : i < n
      · rw [blt_bif hi, blt_bif hi, (ih i hi).1]
      · have : Nat.blt i n = false := by
          cases hb : Nat.blt i n with
          | false => rfl
          | true => rw [Nat.blt_eq] at hb; exact absurd hb hi
        rw [this]; rfl
    · simp only [dok]
      exact propext ⟨fun hh i hi => (ih i hi).2 ▸ hh i hi, fun hh i hi => (ih i hi).2.symm ▸ hh i hi⟩
  | .tup _, _ => ⟨rfl, rfl⟩
  | .row .., _ => ⟨rfl, rfl⟩
  | .own id n i len cap, h => by
    have e := h id (by simp [idsOf])
    simp only [dview, dok, e]
    exact ⟨trivial, trivial⟩
  | .arr .., _ => ⟨rfl, rfl⟩
  | .ptr .., _ => ⟨rfl, rfl⟩
  | .rp .., _ => ⟨rfl, rfl⟩
  | .clo .., _ => ⟨rfl, rfl⟩
  | .mp _, _ => ⟨rfl, rfl⟩
theorem frz1_same {x : AV} {r : AV × Option Prop × Bool × List Id} (h : frz1 T m x = some r) (hm : ∀ id ∈ r.2.2.2, m' id = m id) : frz1 T m' x = some r := by
  unfold frz1 at h ⊢
  split at h
  · rename_i id n i len cap
    have h0 := h
    split at h
    · cases h
      have e := hm id (by simp)
      simp only [e]
      exact h0
    · cases h
  · rename_i id n i p lo len hi
    have h0 := h
    split at h
    · simp only [Option.bind_eq_some_iff, Option.some.injEq] at h
      obtain ⟨e', h1, rfl⟩ := h
      have e := hm id (by simp)
      simp only [e]
      exact h0
    · cases h
  · cases h
  · rename_i id n i p
    have h0 := h
    split at h
    · rename_i B hB
      simp only [Option.bind_eq_some_iff, Option.some.injEq] at h
      obtain ⟨t, ht, rfl⟩ := h
      have e := hm id (by simp)
      obtain ⟨d1, d2⟩ := dview_same (m := m) (m' := m') ((B.get i).at p) (fun id' hid => hm id' (List.mem_cons_of_mem _ hid))
      simp only [e, hB, ht, Option.bind_some, d1, d2]
    · cases h
  · exact h
theorem frzL_same : ∀ {xs : List AV} {r : List AV × Option Prop × Bool × List Id}, frzL T m xs = some r → (∀ id ∈ r.2.2.2, m' id = m id) → frzL T m' xs = some r
  | [], r, h, _ => h
  | x :: xs, r, h, hm => by
    simp only [frzL, Option.bind_eq_some_iff, Option.some.injEq] at h ⊢
    obtain ⟨a, h1, l, h2, rfl⟩ := h
    simp only [List.mem_append] at hm
    exact ⟨a, frz1_same h1 (fun id hi => hm id (.inl hi)), l, frzL_same h2 (fun id hi => hm id (.inr hi)), rfl⟩
theorem appM_same {d : List (Id × Ob)} : ∀ {m m' : Id → Option Ob} {id : Id}, m' id = m id → appM m' d id = appM m d id := by
  induction d with
  | nil => intro m m' id h; exact h
  | cons x d ih =>
    intro m m' id h
    simp only [appM]
    refine ih ?_
    by_cases hi : id = x.1
    · subst hi; rw [setM_self, setM_self]
    · rw [setM_ne _ _ hi, setM_ne _ _ hi, h]
theorem view1_same {ids : List Id} {x : AV} {r : AV × List (Id × Ob) × Option Prop} (h : view1 ids m x = some r) (hm : ∀ id ∈ r.2.1.map (·.1), m' id = m id) : view1 ids m' x = some r := by
  unfold view1 at h ⊢
  split at h
  · rename_i id n i len cap
    cases hh : hasId ids id with
    | true => rw [hh] at h; exact h
    | false =>
      rw [hh] at h
      simp only [cond_false] at h ⊢
      have h0 := h
      split at h
      · cases h
        have e := hm id (by simp)
        simp only [e]
        exact h0
      · cases h
  · cases h
  · exact h
theorem viewL_same {ids : List Id} : ∀ {xs : List AV} {m m' : Id → Option Ob} {r : List AV × List (Id × Ob) × Option Prop}, viewL ids m xs = some r → (∀ id ∈ r.2.1.map (·.1), m' id = m id) → viewL ids m' xs = some r
  | [], _, _, r, h, _ => h
  | x :: xs, m, m', r, h, hm => by
    simp only [viewL, Option.bind_eq_some_iff, Option.some.injEq] at h ⊢
    obtain ⟨a, h1, l, h2, rfl⟩ := h
    simp only [List.map_append, List.mem_append] at hm
    exact ⟨a, view1_same h1 (fun id hi => hm id (.inl hi)), l, viewL_same h2 (fun id hi => appM_same (hm id (.inr hi))), rfl⟩
theorem gets_same : ∀ {ids : List Id} {m m' : Id → Option Ob}, (∀ id ∈ ids, m' id = m id) → gets m' ids = gets m ids
  | [], _, _, _ => rfl
  | i :: r, m, m', h => by
    simp only [gets]
    rw [h i (by simp), gets_same (fun id hi => h id (by simp [hi]))]
end

section
variable {T : Nat → TI}
theorem evR_same {st st' : St} {G : D} {o : Oper} {r : AV × List Id × Option Prop} (h : evR T st G o = some r) (ht : ∀ k ∈ tmpsOf o, st'.t k = st.t k) (hm : ∀ id ∈ r.2.1, st'.m id = st.m id) : evR T st' G o = some r := by
  have hev : ∀ x ∈ o.op.operands, ev st' x = ev st x := fun x hx => ev_same ht hx
  unfold evR at h ⊢
  cases hop : o.op <;> rw [hop] at h <;> (try dsimp only at h) <;> (try (cases h; done)) <;> (try dsimp only) <;> rw [hop] at hev <;> simp only [Op.operands] at hev
  case move x => rw [hev x (by simp)]; exact h
  case assign x => rw [hev x (by simp)]; exact h
  case pick c a b => rw [hev c (by simp), hev a (by simp), hev b (by simp)]; exact h
  case build t ps => rw [needs_same (fun x hx => hev x (by simpa using hx))]; exact h
  case load t x =>
    rw [hev x (by simp)]
    simp only [Option.bind_eq_some_iff, Option.some.injEq] at h ⊢
    obtain ⟨b, h1, r', h2, rfl⟩ := h
    obtain ⟨g1, g2⟩ := ldA_same h2 hm
    exact ⟨b, h1, r', g1, by rw [g2]⟩
  case nilCheck x =>
    rw [hev x (by simp)]
    simp only [Option.bind_eq_some_iff] at h ⊢
    obtain ⟨b, h1, h2⟩ := h
    refine ⟨b, h1, ?_⟩
    split at h2
    · rename_i id n i p hb
      try simp only [hb]
      split at h2
      · rename_i B hB
        cases h2
        rw [hm id (by simp)]
        simp only [hB]
      · cases h2
    · rename_i hb; (try simp only [hb]); exact h2
    · rename_i hb; (try simp only [hb]); exact h2
    · cases h2
  case fieldAddr t x k =>
    rw [hev x (by simp)]
    simp only [Option.bind_eq_some_iff, Option.some.injEq] at h ⊢
    obtain ⟨b, h1, r', h2, rfl⟩ := h
    obtain ⟨g1, g2⟩ := fieldP_same h2 hm
    exact ⟨b, h1, r', g1, by rw [g2]⟩
  case indexAddr t x i =>
    rw [hev x (by simp), hev i (by simp)]
    simp only [Option.bind_eq_some_iff] at h ⊢
    obtain ⟨b, h1, bi, h2, h3⟩ := h
    refine ⟨b, h1, bi, h2, ?_⟩
    split at h3
    · rename_i k j hbi
      try simp only [hbi]
      simp only [Option.bind_eq_some_iff, Option.some.injEq] at h3 ⊢
      obtain ⟨r', h4, rfl⟩ := h3
      obtain ⟨g1, g2⟩ := idxP_same h4 hm
      exact ⟨r', g1, by rw [g2]⟩
    · cases h3
  case field t x k => rw [hev x (by simp)]; exact h
  case index t x i => rw [hev x (by simp), hev i (by simp)]; exact h
  case binOp op t x y t' =>
    rw [hev x (by simp), hev y (by simp)]
    simp only [Option.bind_eq_some_iff] at h ⊢
    obtain ⟨b1, h1, b2, h2, h⟩ := h
    refine ⟨b1, h1, b2, h2, ?_⟩
    split at h
    · rename_i r' hr'
      simp only [Option.some.injEq] at h
      subst h
      rw [arrNil_same hr' (hm _ (by simp))]
    · simp only [Option.bind_eq_some_iff] at h
      obtain ⟨r', h3, h4⟩ := h
      rw [arrNil_no h3]
      simp only [Option.bind_eq_some_iff]
      exact ⟨r', h3, h4⟩
  case unOp op t x => rw [hev x (by simp)]; exact h
  case convert s d x => rw [hev x (by simp)]; exact h
  case extract x i => rw [hev x (by simp)]; exact h
  case makeFunc fn fst cs =>
    cases fn with
    | func f =>
      dsimp only at h ⊢
      rw [needs_same (fun x hx => hev x (by simp at hx; simp [hx]))]
      exact h
    | _ => cases h
  case call c =>
    split at h
    · rename_i x hcal hargs
      have ha : c.args = #[x] := by apply Array.ext'; simpa using hargs
      split at h
      · rename_i t htys
        try simp only [hcal, hargs, htys]
        rw [hev x (by simp [Call.operands, ha])]
        simp only [Option.bind_eq_some_iff, Option.some.injEq] at h ⊢
        obtain ⟨b, h1, r', h2, rfl⟩ := h
        obtain ⟨g1, g2⟩ := lenA_same h2 hm
        exact ⟨b, h1, r', g1, by rw [g2]⟩
      · cases h
    · rename_i x y hcal hargs
      have ha : c.args = #[x, y] := by apply Array.ext'; simpa using hargs
      try simp only [hcal, hargs]
      rw [hev x (by simp [Call.operands, ha]), hev y (by simp [Call.operands, ha])]
      exact h
    · rename_i x y hcal hargs
      have ha : c.args = #[x, y] := by apply Array.ext'; simpa using hargs
      try simp only [hcal, hargs]
      rw [hev x (by simp [Call.operands, ha]), hev y (by simp [Call.operands, ha])]
      exact h
    · cases h

theorem evW_same {st st' : St} {G : D} {o : Oper} {r : R} (h : evW T st G o = some r) (ht : ∀ k ∈ tmpsOf o, st'.t k = st.t k) (hm : ∀ id ∈ r.f, st'.m id = st.m id) : evW T st' G o = some r := by
  have hev : ∀ x ∈ o.op.operands, ev st' x = ev st x := fun x hx => ev_same ht hx
  unfold evW at h ⊢
  obtain ⟨hs, h⟩ := cond_some h
  rw [hs]
  simp only [cond_true]
  cases hop : o.op <;> rw [hop] at h <;> (try dsimp only at h) <;> (try (cases h; done)) <;> (try dsimp only) <;> rw [hop] at hev <;> simp only [Op.operands] at hev
  case alloc t =>
    have h0 := h
    obtain ⟨hb, h⟩ := cond_some h
    cases h
    rw [hm _ (by simp)]; exact h0
  case box t x =>
    rw [hev x (by simp)]
    simp only [Option.bind_eq_some_iff] at h ⊢
    obtain ⟨b, h1, h⟩ := h
    have h0 := h
    obtain ⟨hb, h⟩ := cond_some h
    cases h
    exact ⟨b, h1, by rw [hm _ (by simp)]; exact h0⟩
  case store t x y =>
    rw [hev x (by simp), hev y (by simp)]
    simp only [Option.bind_eq_some_iff] at h ⊢
    obtain ⟨b, h1, b', h2, h⟩ := h
    refine ⟨b, h1, b', h2, ?_⟩
    split at h
    · rename_i id n i p hb
      try simp only [hb]
      have h0 := h
      split at h
      · obtain ⟨hb, h⟩ := cond_some h
        cases h
        rw [hm _ (by simp)]; exact h0
      · cases h
    · cases h
  case buildSlice t len ps => rw [needs_same (fun x hx => hev x (by simpa using hx))]; exact h
  case makeSlice t x y =>
    rw [hev x (by simp), hev y (by simp)]
    simp only [Option.bind_eq_some_iff] at h ⊢
    obtain ⟨b, h1, b', h2, h⟩ := h
    refine ⟨b, h1, b', h2, ?_⟩
    split at h
    · rename_i k l k' c e e1 e2 e3
      have h0 := h
      obtain ⟨hb, h⟩ := cond_some h
      cases h
      rw [hm _ (by simp)]
      exact h0
    · cases h
  case call c =>
    split at h
    · rename_i x y t t' hcal hargs htys
      have ha : c.args = #[x, y] := by apply Array.ext'; simpa using hargs
      try simp only [hcal, hargs, htys]
      rw [hev x (by simp [Call.operands, ha]), hev y (by simp [Call.operands, ha])]
      simp only [Option.bind_eq_some_iff] at h ⊢
      obtain ⟨b, h1, b', h2, h⟩ := h
      refine ⟨b, h1, b', h2, ?_⟩
      split at h
      · rename_i e hk
        try simp only [hk]
        simp only [Option.bind_eq_some_iff] at h ⊢
        obtain ⟨q, hq, h⟩ := h
        refine ⟨q, ?_⟩
        obtain ⟨hb, h⟩ := cond_some h
        rw [hb]
        simp only [cond_true]
        split at h
        · have h0 := h
          rename_i hbx
          obtain ⟨hn, h⟩ := cond_some h
          cases h
          obtain ⟨g1, g2⟩ := srcA_same hq (fun id hi => hm id (by simp [hi]))
          refine ⟨g1, ?_⟩
          try simp only [hbx]
          rw [hm _ (by simp), g2]; exact h0
        · have h0 := h
          rename_i hbx
          obtain ⟨hn, h⟩ := cond_some h
          cases h
          obtain ⟨g1, g2⟩ := srcA_same hq (fun id hi => hm id (by simp [hi]))
          refine ⟨g1, ?_⟩
          try simp only [hbx]
          rw [hm _ (by simp), g2]; exact h0
        · rename_i id n len hbx
          have h0 := h
          split at h
          · obtain ⟨hn, h⟩ := cond_some h
            cases h
            obtain ⟨g1, g2⟩ := srcA_same hq (fun id hi => hm id (by simp [hi]))
            refine ⟨g1, ?_⟩
            try simp only [hbx]
            rw [hm _ (by simp), g2]; exact h0
          · cases h
        · cases h
      · cases h
    · cases h
theorem evX_same {st st' : St} {G : D} {gs : List CG} {o : Oper} {r : R × List CG} (h : evX T st G gs o = some r) (ht : ∀ k ∈ tmpsOf o, st'.t k = st.t k) (hm : ∀ id ∈ r.1.f, st'.m id = st.m id) : evX T st' G gs o = some r := by
  have hev : ∀ x ∈ o.op.operands, ev st' x = ev st x := fun x hx => ev_same ht hx
  unfold evX at h ⊢
  cases hop : o.op <;> rw [hop] at h <;> (try dsimp only at h) <;> (try (cases h; done)) <;> (try dsimp only) <;> rw [hop] at hev <;> simp only [Op.operands] at hev
  case slice t x lo hi mx =>
    rw [hev x (by simp), optI_same (fun y e => hev y (by simp [e])), optI_same (fun y e => hev y (by simp [e])), optI_same (fun y e => hev y (by simp [e]))]
    simp only [Option.bind_eq_some_iff] at h ⊢
    obtain ⟨b, h1, l, h2, hh, h3, q, h4, r', h5, h⟩ := h
    have h0 := h
    obtain ⟨hb, h⟩ := cond_some h
    cases h
    obtain ⟨g1, g2⟩ := slA_same h5 hm
    exact ⟨b, h1, l, h2, hh, h3, q, h4, r', g1, by rw [g2]; exact h0⟩
  case buildSlice t len ps =>
    cases gs with
    | nil => cases h
    | cons g gs =>
      dsimp only at h ⊢
      rw [needs_same (fun x hx => hev x (by simpa using hx))]
      have hmn := (cond_some h).1
      replace h := (cond_some h).2
      rw [hmn]
      simp only [cond_true]
      simp only [Option.bind_eq_some_iff] at h ⊢
      obtain ⟨l, h1, h⟩ := h
      refine ⟨l, h1, ?_⟩
      split at h
      · have h0 := h
        obtain ⟨hb, h⟩ := cond_some h
        cases h
        rw [hm _ (by simp)]; exact h0
      · cases h
  case makeMap t rv =>
    cases rv with
    | some _ => cases h
    | none =>
      dsimp only at h ⊢
      have h0 := h
      obtain ⟨hb, h⟩ := cond_some h
      cases h
      rw [hm _ (by simp)]; exact h0
  case lookup t x k ok =>
    cases gs with
    | nil => cases h
    | cons g gs =>
      dsimp only at h ⊢
      rw [hev x (by simp), hev k (by simp)]
      simp only [Option.bind_eq_some_iff] at h ⊢
      obtain ⟨b, h1, b2, h2, h⟩ := h
      refine ⟨b, h1, b2, h2, ?_⟩
      have h0 := h
      split at h
      · rename_i id kt vt hb hk
        have h0' := h
        split at h
        · obtain ⟨hbb, h⟩ := cond_some h
          cases h
          rw [hm _ (by simp)]; exact h0'
        · cases h
      · cases h
  case mapUpdate t x k v =>
    cases gs with
    | nil => cases h
    | cons g gs =>
      dsimp only at h ⊢
      rw [hev x (by simp), hev k (by simp), hev v (by simp)]
      simp only [Option.bind_eq_some_iff] at h ⊢
      obtain ⟨b, h1, b2, h2, b3, h3, es', h4, h⟩ := h
      refine ⟨b, h1, b2, h2, b3, h3, es', h4, ?_⟩
      split at h
      · rename_i id kt vt hb hk
        have h0' := h
        split at h
        · obtain ⟨hbb, h⟩ := cond_some h
          cases h
          rw [hm _ (by simp)]; exact h0'
        · cases h
      · cases h
  case insert t x k v =>
    cases gs with
    | nil => cases h
    | cons g gs =>
      dsimp only at h ⊢
      rw [hev x (by simp), hev k (by simp), hev v (by simp)]
      simp only [Option.bind_eq_some_iff] at h ⊢
      obtain ⟨b, h1, b2, h2, b3, h3, es', h4, h⟩ := h
      refine ⟨b, h1, b2, h2, b3, h3, es', h4, ?_⟩
      split at h
      · rename_i id kt vt hb hk
        have h0' := h
        split at h
        · obtain ⟨hbb, h⟩ := cond_some h
          cases h
          rw [hm _ (by simp)]; exact h0'
        · cases h
      · cases h
  case call c =>
    split at h
    · rename_i x y t t' hcal hargs htys
      have ha : c.args = #[x, y] := by apply Array.ext'; simpa using hargs
      try simp only [hcal, hargs, htys]
      rw [hev x (by simp [Call.operands, ha]), hev y (by simp [Call.operands, ha])]
      simp only [Option.bind_eq_some_iff] at h ⊢
      obtain ⟨b, h1, b', h2, h⟩ := h
      refine ⟨b, h1, b', h2, ?_⟩
      split at h
      · rename_i e hk
        try simp only [hk]
        simp only [Option.bind_eq_some_iff] at h ⊢
        obtain ⟨q, hq, r', hr', h⟩ := h
        have h0 := h
        obtain ⟨hbb, h⟩ := cond_some h
        cases h
        obtain ⟨g1, g2, g3⟩ := cpyA_same hr' hm
        obtain ⟨k1, k2⟩ := srcC_same hq (fun id hi => hm id (g3 id hi))
        exact ⟨q, k1, r', g1, by rw [g2, k2]; exact h0⟩
      · cases h
    · rename_i x y t t' hcal hargs htys
      have ha : c.args = #[x, y] := by apply Array.ext'; simpa using hargs
      try simp only [hcal, hargs, htys]
      split at h
      · rename_i g gs'
        have h00 := h
        obtain ⟨hm0, h⟩ := cond_some h
        simp only [hm0, cond_true]
        rw [hev x (by simp [Call.operands, ha]), hev y (by simp [Call.operands, ha])]
        simp only [Option.bind_eq_some_iff] at h ⊢
        obtain ⟨b, h1, b', h2, h⟩ := h
        refine ⟨b, h1, b', h2, ?_⟩
        split at h
        · rename_i e hk
          try simp only [hk]
          simp only [Option.bind_eq_some_iff] at h ⊢
          obtain ⟨q, hq, r', hr', h⟩ := h
          have h0 := h
          obtain ⟨hbb, h⟩ := cond_some h
          cases h
          obtain ⟨k1, k2⟩ := srcA_same hq (fun id hi => hm id (List.mem_append_right _ hi))
          have k3 := nopA_same hr' (fun id hi => hm id (List.mem_append_left _ hi))
          exact ⟨q, k1, r', k3, by rw [k2]; exact h0⟩
        · cases h
      · cases h
    · rename_i x t hcal hargs htys
      have ha : c.args = #[x] := by apply Array.ext'; simpa using hargs
      try simp only [hcal, hargs, htys]
      rw [hev x (by simp [Call.operands, ha])]
      simp only [Option.bind_eq_some_iff] at h ⊢
      obtain ⟨b, h1, h⟩ := h
      refine ⟨b, h1, ?_⟩
      split at h
      · rename_i id n i len cap e hb hk
        split at h
        · rename_i B hB
          have h0 := h
          obtain ⟨hbb, h⟩ := cond_some h
          cases h
          have e1 := hm id (by simp)
          simp only [hb, hk, nC, e1, hB] at h0 ⊢
          exact h0
        · cases h
      · cases h
    · cases h
theorem evK_same {AC : ACT} {st st' : St} {G : D} {gs : List CG} {o : Oper} {r : R × List CG} (h : evK T AC st G gs o = some r) (ht : ∀ k ∈ tmpsOf o, st'.t k = st.t k) (hm : ∀ id ∈ r.1.f, st'.m id = st.m id) : evK T AC st' G gs o = some r := by
  have hev : ∀ x ∈ o.op.operands, ev st' x = ev st x := fun x hx => ev_same ht hx
  unfold evK at h ⊢
  split at h
  · rename_i c g gs' hop
    try simp only [hop]
    rw [hop] at hev
    simp only [Op.operands] at hev
    split at h
    · rename_i fo hcal
      try simp only [hcal]
      rw [hev fo (by simp [Call.operands, hcal]), needs_same (fun x hx => hev x (by simp at hx; simp [Call.operands, hcal, hx]))]
      simp only [Option.bind_eq_some_iff] at h ⊢
      obtain ⟨fa, h1, l, h2, h⟩ := h
      refine ⟨fa, h1, l, h2, ?_⟩
      split at h
      · rename_i f caps hfa hlent
        try simp only [hfa, hlent]
        simp only [Option.bind_eq_some_iff] at h ⊢
        obtain ⟨fz, h3, h⟩ := h
        have h0 := h
        obtain ⟨hb, h⟩ := cond_some h
        cases h
        exact ⟨fz, frzL_same h3 hm, h0⟩
      · rename_i f caps hfa hlent
        try simp only [hfa, hlent]
        cases hlk : isLook g with
        | true =>
          simp only [hlk, cond_true, Option.bind_eq_some_iff] at h ⊢
          obtain ⟨vw, h3, B, h4, h⟩ := h
          have h0 := h
          obtain ⟨hb, h⟩ := cond_some h
          cases h
          have hf1 : ∀ id ∈ vw.2.1.map (·.1), st'.m id = st.m id := fun id hi => hm id (List.mem_append_left _ hi)
          have hf2 : ∀ id ∈ g.ids, st'.m id = st.m id := fun id hi => hm id (List.mem_append_right _ hi)
          refine ⟨vw, viewL_same h3 hf1, B, ?_, h0⟩
          rw [gets_same (m := appM st.m vw.2.1) (fun id hi => appM_same (hf2 id hi))]; exact h4
        | false =>
          simp only [hlk, cond_false] at h ⊢
          simp only [Option.bind_eq_some_iff] at h ⊢
          obtain ⟨vw, h3, B, h4, h⟩ := h
          have h0 := h
          obtain ⟨hb, h⟩ := cond_some h
          cases h
          have hf1 : ∀ id ∈ vw.2.1.map (·.1), st'.m id = st.m id := fun id hi => hm id (List.mem_append_left _ hi)
          have hf2 : ∀ id ∈ g.ids, st'.m id = st.m id := fun id hi => hm id (List.mem_append_right _ (List.mem_append_left _ hi))
          have hf3 : ∀ id ∈ sites (o.dst.getD 0) 1 (g.out.length - g.ids.length), st'.m id = st.m id := fun id hi => hm id (List.mem_append_right _ (List.mem_append_right _ hi))
          refine ⟨vw, viewL_same h3 hf1, B, ?_, ?_⟩
          · rw [gets_same (m := appM st.m vw.2.1) (fun id hi => appM_same (hf2 id hi))]; exact h4
          · have e : (sites (o.dst.getD 0) 1 (g.out.length - g.ids.length)).all (fun id => isNone (appM st'.m vw.2.1 id)) = (sites (o.dst.getD 0) 1 (g.out.length - g.ids.length)).all (fun id => isNone (appM st.m vw.2.1 id)) := by
              rw [Bool.eq_iff_iff, List.all_eq_true, List.all_eq_true]
              constructor
              · intro h id hi; rw [← appM_same (hf3 id hi)]; exact h id hi
              · intro h id hi; rw [appM_same (hf3 id hi)]; exact h id hi
            rw [e]; exact h0
      · cases h
    · cases h
  · cases h

theorem evO_same {AC : ACT} {st st' : St} {G : D} {gs : List CG} {o : Oper} {r : R × List CG} (h : evO T AC st G gs o = some r) (ht : ∀ k ∈ tmpsOf o, st'.t k = st.t k) (hm : ∀ id ∈ r.1.f, st'.m id = st.m id) : evO T AC st' G gs o = some r := by
  have w : ∀ {r : R × List CG}, ((evW T st G o).bind fun r => some (r, gs)) = some r → (∀ id ∈ r.1.f, st'.m id = st.m id) → ((evW T st' G o).bind fun r => some (r, gs)) = some r := by
    intro r h hm
    simp only [Option.bind_eq_some_iff, Option.some.injEq] at h ⊢
    obtain ⟨r', h1, rfl⟩ := h
    exact ⟨r', evW_same h1 ht hm, rfl⟩
  unfold evO at h ⊢
  split at h
  · rename_i hc
    simp only [Option.bind_eq_some_iff, Option.some.injEq] at h ⊢
    obtain ⟨r', h1, rfl⟩ := h
    exact ⟨r', evR_same h1 ht hm, rfl⟩
  · exact w h hm
  · exact evX_same h ht hm
  · cases gs with
    | nil => exact w h hm
    | cons g gs =>
      dsimp only at h ⊢
      cases hmn : isMine g with
      | true => rw [hmn] at h; exact evX_same h ht hm
      | false => rw [hmn] at h; exact w h hm
  · cases gs with
    | nil => exact w h hm
    | cons g gs =>
      dsimp only at h ⊢
      cases hmn : isNop g with
      | true => rw [hmn] at h; exact evX_same h ht hm
      | false => rw [hmn] at h; exact w h hm
  · exact evK_same h ht hm
def reads (ops : List Oper) (o : Oper) : List Nat := (match o.guard with
  | some (j, _) => match (ops[j]?).bind (·.dst) with
    | some d => [d]
    | none => []
  | none => []) ++ tmpsOf o
theorem guardD_same {ops : List Oper} {st st' : St} {o : Oper} (ht : ∀ k ∈ reads ops o, st'.t k = st.t k) : guardD ops st' o = guardD ops st o := by
  unfold guardD
  unfold reads at ht
  cases hg : o.guard with
  | none => rfl
  | some p =>
    obtain ⟨j, w⟩ := p
    simp only
    cases hj : ops[j]? with
    | none => rfl
    | some oj =>
      simp only [Option.bind_some]
      cases hd : oj.dst with
      | none => rfl
      | some d =>
        simp only [Option.bind_some]
        rw [ht d (by simp [hg, hj, hd])]
end
end Go.Ab

/- Ab, part 19: a region that draws its order. -/
set_option autoImplicit false
set_option linter.unusedVariables false
namespace Go.Ab

structure Rec where
  o : Oper
  G : D
  gs : List CG
  r : R
def evT (T : Nat → TI) (AC : ACT) (nt : Nat) (ops : List Oper) : List Oper → RS → Option (List Rec × RS)
  | [], s => some ([], s)
  | o :: r, s => (guardD ops s.st o).bind fun G => (evO T AC s.st G s.gs o).bind fun x => bif dstOk nt o.dst then
      (evT T AC nt ops r ⟨s.st.after o G x.1, x.2, andC s.c x.1.c⟩).bind fun p => some (⟨o, G, s.gs, x.1⟩ :: p.1, p.2) else none
def natMem (a : Nat) (l : List Nat) : Bool := l.any (Nat.beq a)
def idsMeet (a b : List Id) : Bool := a.any (hasId b)
def wr (r : R) : List Id := r.d.map (·.1)
def dstNot (d : Option Nat) (l : List Nat) : Bool := match d with
  | some d => !natMem d l
  | none => true
def dstNe (d e : Option Nat) : Bool := match d, e with
  | some d, some e => !Nat.beq d e
  | _, _ => true
def noConf (ops : List Oper) (x y : Rec) : Bool :=
  dstNot x.o.dst (reads ops y.o) && dstNot y.o.dst (reads ops x.o) && dstNe x.o.dst y.o.dst && !idsMeet (wr x.r) (y.r.f ++ wr y.r) && !idsMeet (wr y.r) x.r.f
def reach (ops : List Oper) (i : Nat) : Nat → Oper → Bool
  | 0, _ => false
  | f + 1, o => (o.after.toList.any fun e => Region.binds .any e && Nat.beq e.on i) || o.after.toList.any fun e => Region.binds .any e && Nat.blt i e.on && match ops[e.on]? with
    | some o' => reach ops i f o'
    | none => false
def forward (j : Nat) (o : Oper) : Bool := o.after.toList.all fun e => !Region.binds .any e || Nat.blt e.on j
def okAgainst (ops : List Oper) (y : Rec) : List Rec → Nat → Bool
  | [], _ => true
  | x :: r, i => (noConf ops x y || reach ops i 12 y.o) && okAgainst ops y r (i + 1)
def okAll (ops : List Oper) : List Rec → List Rec → Bool
  | _, [] => true
  | done, y :: r => forward done.length y.o && okAgainst ops y done 0 && okAll ops (done ++ [y]) r
def evA (T : Nat → TI) (AC : ACT) (nt : Nat) (ops : List Oper) (s : RS) : Option RS :=
  (evT T AC nt ops ops s).bind fun p => bif okAll ops [] p.1 then some p.2 else none

theorem okAgainst_at {ops : List Oper} {y : Rec} : ∀ {l : List Rec} {i0 i : Nat} {x : Rec}, okAgainst ops y l i0 = true → l[i]? = some x → noConf ops x y = true ∨ reach ops (i0 + i) 12 y.o = true
  | [], _, _, _, _, h => by simp at h
  | z :: r, i0, i, x, h, hi => by
    simp only [okAgainst, Bool.and_eq_true, Bool.or_eq_true] at h
    cases i with
    | zero => simp at hi; subst hi; simpa using h.1
    | succ i =>
      have := okAgainst_at (i := i) h.2 (by simpa using hi)
      rwa [show i0 + (i + 1) = i0 + 1 + i by omega]
theorem okAll_at {ops : List Oper} : ∀ {r done : List Rec}, okAll ops done r = true → ∀ {i j : Nat} {x y : Rec}, i < j → done.length ≤ j → (done ++ r)[i]? = some x → (done ++ r)[j]? = some y → noConf ops x y = true ∨ reach ops i 12 y.o = true
  | [], done, _, i, j, x, y, _, hj, _, hy => by
    simp at hy
    have := (List.getElem?_eq_some_iff.1 hy).1
    omega
  | z :: r, done, h, i, j, x, y, hij, hj, hx, hy => by
    simp only [okAll, Bool.and_eq_true] at h
    by_cases hjd : j = done.length
    · subst hjd
      rw [List.getElem?_append_right (Nat.le_refl _)] at hy
      simp at hy
      subst hy
      rw [List.getElem?_append_left hij] at hx
      have := okAgainst_at h.1.2 hx
      rwa [Nat.zero_add] at this
    · have e : done ++ z :: r = (done ++ [z]) ++ r := by simp
      rw [e] at hx hy
      exact okAll_at h.2 hij (by simp; omega) hx hy
theorem okAll_fwd {ops : List Oper} : ∀ {r done : List Rec}, okAll ops done r = true → ∀ {j : Nat} {y : Rec}, done.length ≤ j → (done ++ r)[j]? = some y → forward j y.o = true
  | [], done, _, j, y, hj, hy => by
    simp at hy
    have := (List.getElem?_eq_some_iff.1 hy).1
    omega
  | z :: r, done, h, j, y, hj, hy => by
    simp only [okAll, Bool.and_eq_true] at h
    by_cases hjd : j = done.length
    · subst hjd
      rw [List.getElem?_append_right (Nat.le_refl _)] at hy
      simp at hy
      subst hy
      exact h.1.1
    · have e : done ++ z :: r = (done ++ [z]) ++ r := by simp
      rw [e] at hy
      exact okAll_fwd h.2 (by simp; omega) hy

/-! ### the state behind some of the operations -/
def foldX (X : Nat → Bool) : Nat → List Rec → St → St
  | _, [], st => st
  | k, x :: r, st => foldX X (k + 1) r (bif X k then st.after x.o x.G x.r else st)
theorem foldX_none {X : Nat → Bool} : ∀ {l : List Rec} {k : Nat} {st : St}, (∀ i, k ≤ i → X i = false) → foldX X k l st = st
  | [], _, _, _ => rfl
  | x :: r, k, st, h => by
    simp only [foldX, h k (Nat.le_refl _), cond_false]
    exact foldX_none (fun i hi => h i (by omega))
theorem foldX_congr {X Y : Nat → Bool} : ∀ {l : List Rec} {k : Nat} {st : St}, (∀ i, k ≤ i → i < k + l.length → X i = Y i) → foldX X k l st = foldX Y k l st
  | [], _, _, _ => rfl
  | x :: r, k, st, h => by
    simp only [foldX]
    rw [h k (Nat.le_refl _) (by simp)]
    exact foldX_congr (fun i hi hi' => h i (by omega) (by simp; omega))

theorem appM_not {m : Id → Option Ob} {d : List (Id × Ob)} {id : Id} (h : id ∉ d.map (·.1)) : appM m d id = m id := by
  induction d generalizing m with
  | nil => rfl
  | cons x d ih =>
    simp only [List.map_cons, List.mem_cons, not_or] at h
    simp only [appM]
    rw [ih h.2, setM_ne _ _ h.1]
theorem appM_mem {m m' : Id → Option Ob} {d : List (Id × Ob)} {id : Id} (h : id ∈ d.map (·.1)) : appM m d id = appM m' d id := by
  induction d generalizing m m' with
  | nil => simp at h
  | cons x d ih =>
    simp only [appM]
    by_cases hd : id ∈ d.map (·.1)
    · exact ih hd
    · simp only [List.map_cons, List.mem_cons] at h
      rcases h with h | h
      · rw [appM_not hd, appM_not hd, h, setM_self, setM_self]
      · exact absurd h hd
theorem after_m (st : St) (o : Oper) (G : D) (r : R) : (st.after o G r).m = appM st.m r.d := rfl

theorem foldX_t {X Y : Nat → Bool} {t : Nat} : ∀ {l : List Rec} {k : Nat} {st st' : St}, st.t t = st'.t t → (∀ (i : Nat) (x : Rec), l[i]? = some x → X (k + i) ≠ Y (k + i) → x.o.dst ≠ some t) → (foldX X k l st).t t = (foldX Y k l st').t t
  | [], _, _, _, h, _ => h
  | x :: r, k, st, st', h, hd => by
    simp only [foldX]
    refine foldX_t ?_ (fun i y hy hne => hd (i + 1) y (by simpa using hy) (by rwa [show k + (i + 1) = k + 1 + i by omega]))
    have h0 := hd 0 x rfl
    simp only [Nat.add_zero] at h0
    have hsame : ∀ st : St, x.o.dst ≠ some t → (st.after x.o x.G x.r).t t = st.t t := by
      intro st hne
      rw [after_t]
      cases hx : x.o.dst with
      | none => rfl
      | some d =>
        have : t ≠ d := fun e => hne (by rw [hx, e])
        simp [this]
    have hboth : (st.after x.o x.G x.r).t t = (st'.after x.o x.G x.r).t t := by
      rw [after_t, after_t]
      cases x.o.dst with
      | none => exact h
      | some d => by_cases e : t = d <;> simp [e, h] <;> (subst e; exact fun _ => h) 
    cases hX : X k <;> cases hY : Y k
    · exact h
    · rw [hX, hY] at h0
      simp only [cond_false, cond_true]
      rw [hsame st' (h0 (by simp))]; exact h
    · rw [hX, hY] at h0
      simp only [cond_false, cond_true]
      rw [hsame st (h0 (by simp))]; exact h
    · exact hboth
theorem foldX_m {X Y : Nat → Bool} {id : Id} : ∀ {l : List Rec} {k : Nat} {st st' : St}, st.m id = st'.m id → (∀ (i : Nat) (x : Rec), l[i]? = some x → X (k + i) ≠ Y (k + i) → id ∉ wr x.r) → (foldX X k l st).m id = (foldX Y k l st').m id
  | [], _, _, _, h, _ => h
  | x :: r, k, st, st', h, hd => by
    simp only [foldX]
    refine foldX_m ?_ (fun i y hy hne => hd (i + 1) y (by simpa using hy) (by rwa [show k + (i + 1) = k + 1 + i by omega]))
    have h0 := hd 0 x rfl
    simp only [Nat.add_zero] at h0
    cases hX : X k <;> cases hY : Y k
    · exact h
    · rw [hX, hY] at h0
      simp only [cond_false, cond_true, after_m]
      rw [appM_not (h0 (by simp))]; exact h
    · rw [hX, hY] at h0
      simp only [cond_false, cond_true, after_m]
      rw [appM_not (h0 (by simp))]; exact h
    · simp only [cond_true, after_m]
      exact (appM_same h.symm).symm

theorem after_comm (st : St) (x y : Rec) (hd : dstNe x.o.dst y.o.dst = true) (hw : ∀ id ∈ wr x.r, id ∉ wr y.r) : (st.after x.o x.G x.r).after y.o y.G y.r = (st.after y.o y.G y.r).after x.o x.G x.r := by
  have ht : ((st.after x.o x.G x.r).after y.o y.G y.r).t = ((st.after y.o y.G y.r).after x.o x.G x.r).t := by
    funext k
    simp only [after_t]
    cases hx : x.o.dst with
    | none => rfl
    | some d =>
      cases hy : y.o.dst with
      | none => rfl
      | some e =>
        rw [hx, hy] at hd
        have hne : d ≠ e := fun h => by subst h; simp [dstNe] at hd
        simp only
        by_cases h1 : k = d
        · subst h1
          simp [hne]
        · simp [h1]
  have hm : ((st.after x.o x.G x.r).after y.o y.G y.r).m = ((st.after y.o y.G y.r).after x.o x.G x.r).m := by
    funext id
    simp only [after_m]
    by_cases h1 : id ∈ wr y.r
    · by_cases h2 : id ∈ wr x.r
      · exact absurd h1 (hw id h2)
      · rw [appM_not (m := appM st.m y.r.d) h2]
        exact appM_mem h1
    · rw [appM_not h1]
      by_cases h2 : id ∈ wr x.r
      · exact appM_mem h2
      · rw [appM_not h2, appM_not h2, appM_not h1]
  cases h1 : (st.after x.o x.G x.r).after y.o y.G y.r
  cases h2 : (st.after y.o y.G y.r).after x.o x.G x.r
  rw [h1, h2] at ht hm
  simp only at ht hm
  rw [ht, hm]
theorem foldX_after {X : Nat → Bool} {x : Rec} : ∀ {l : List Rec} {k : Nat} {st : St}, (∀ (i : Nat) (y : Rec), l[i]? = some y → X (k + i) = true → dstNe x.o.dst y.o.dst = true ∧ ∀ id ∈ wr x.r, id ∉ wr y.r) →
    foldX X k l (st.after x.o x.G x.r) = (foldX X k l st).after x.o x.G x.r
  | [], _, _, _ => rfl
  | y :: r, k, st, h => by
    simp only [foldX]
    have h' : ∀ (i : Nat) (z : Rec), r[i]? = some z → X (k + 1 + i) = true → dstNe x.o.dst z.o.dst = true ∧ ∀ id ∈ wr x.r, id ∉ wr z.r := fun i z hz hX => h (i + 1) z (by simpa using hz) (by rwa [show k + (i + 1) = k + 1 + i by omega])
    cases hX : X k with
    | false => exact foldX_after h'
    | true =>
      obtain ⟨h1, h2⟩ := h 0 y rfl (by simpa using hX)
      simp only [cond_true]
      rw [after_comm st x y h1 h2]
      exact foldX_after h'
theorem foldX_add {X Y : Nat → Bool} {i : Nat} {x : Rec} : ∀ {l : List Rec} {k : Nat} {st : St}, l[i]? = some x → X (k + i) = false → Y (k + i) = true → (∀ j, j ≠ k + i → X j = Y j) → (∀ (j : Nat) (y : Rec), i < j → l[j]? = some y → X (k + j) = true → dstNe x.o.dst y.o.dst = true ∧ ∀ id ∈ wr x.r, id ∉ wr y.r) →
    foldX Y k l st = (foldX X k l st).after x.o x.G x.r
  | [], _, _, h, _, _, _, _ => by simp at h
  | y :: r, k, st, h, hX, hY, hXY, hc => by
    cases i with
    | zero =>
      simp at h
      subst h
      simp only [Nat.add_zero] at hX hY hXY
      simp only [foldX, hX, hY, cond_true, cond_false]
      rw [foldX_congr (X := Y) (Y := X) (fun j hj _ => (hXY j (by omega)).symm)]
      exact foldX_after (fun j z hz hXz => hc (j + 1) z (by omega) (by simpa using hz) (by rwa [show k + (j + 1) = k + 1 + j by omega]))
    | succ i =>
      have e : k + (i + 1) = k + 1 + i := by omega
      simp only [foldX]
      rw [hXY k (by omega)]
      exact foldX_add (by simpa using h) (by rwa [← e]) (by rwa [← e]) (fun j hj => hXY j (by omega)) (fun j z hj hz hXz => hc (j + 1) z (by omega) (by simpa using hz) (by rwa [show k + (j + 1) = k + 1 + j by omega]))
end Go.Ab

/- Ab, part 20: a region that draws its order comes to what it comes to in the order of its text. -/
set_option autoImplicit false
set_option linter.unusedVariables false
namespace Go.Ab
section
variable {P : Program} {T : Nat → TI} {N : Nat}

theorem evT_facts {AC : ACT} {nt : Nat} {ops : List Oper} : ∀ {l : List Oper} {s s' : RS} {recs : List Rec} (k : Nat), evT T AC nt ops l s = some (recs, s') → holdsC s'.c →
    holdsC s.c ∧ recs.length = l.length ∧ s'.st = foldX (fun _ => true) k recs s.st ∧
    ∀ (j : Nat) (x : Rec), recs[j]? = some x → l[j]? = some x.o ∧ guardD ops (foldX (fun i => Nat.blt i (k + j)) k recs s.st) x.o = some x.G ∧ dstOk nt x.o.dst = true ∧ holdsC x.r.c ∧
      ∃ gs', evO T AC (foldX (fun i => Nat.blt i (k + j)) k recs s.st) x.G x.gs x.o = some (x.r, gs')
  | [], s, s', recs, k, h, hc => by
    simp only [evT, Option.some.injEq, Prod.mk.injEq] at h
    obtain ⟨rfl, rfl⟩ := h
    exact ⟨hc, rfl, rfl, fun j x hj => by simp at hj⟩
  | o :: r, s, s', recs, k, h, hc => by
    simp only [evT, Option.bind_eq_some_iff] at h
    obtain ⟨G, h1, x, h2, h3⟩ := h
    obtain ⟨hnt, h3⟩ := cond_some h3
    simp only [Option.bind_eq_some_iff, Option.some.injEq, Prod.mk.injEq] at h3
    obtain ⟨⟨recs', s1⟩, h4, rfl, rfl⟩ := h3
    obtain ⟨g1, g2, g3, g4⟩ := evT_facts (k + 1) h4 hc
    simp only at g1 g3
    rw [holdsC_andC] at g1
    refine ⟨g1.1, by simp [g2], by simp only [foldX, cond_true]; exact g3, fun j y hj => ?_⟩
    cases j with
    | zero =>
      simp at hj
      subst hj
      have e : foldX (fun i => Nat.blt i (k + 0)) k (⟨o, G, s.gs, x.1⟩ :: recs') s.st = s.st := foldX_none (fun i hi => by
        cases hb : Nat.blt i (k + 0) with
        | false => rfl
        | true => have := blt_lt hb; omega)
      rw [e]
      exact ⟨rfl, h1, hnt, g1.2, x.2, h2⟩
    | succ j =>
      simp only [List.getElem?_cons_succ] at hj
      obtain ⟨q1, q2, q3, q4, q5⟩ := g4 j y hj
      have e : foldX (fun i => Nat.blt i (k + (j + 1))) k (⟨o, G, s.gs, x.1⟩ :: recs') s.st = foldX (fun i => Nat.blt i (k + 1 + j)) (k + 1) recs' (s.st.after o G x.1) := by
        simp only [foldX]
        have : Nat.blt k (k + (j + 1)) = true := by rw [Nat.blt_eq]; omega
        rw [this, cond_true, show k + (j + 1) = k + 1 + j by omega]
      rw [e]
      exact ⟨by simpa using q1, q2, q3, q4, q5⟩

theorem natMem_iff {a : Nat} {l : List Nat} : natMem a l = true ↔ a ∈ l := by
  simp only [natMem, List.any_eq_true]
  constructor
  · rintro ⟨b, h1, h2⟩; rw [Nat.eq_of_beq_eq_true h2]; exact h1
  · intro h; exact ⟨a, h, Nat.beq_refl a⟩
theorem dstNot_spec {d : Option Nat} {l : List Nat} (h : dstNot d l = true) : ∀ t ∈ l, d ≠ some t := by
  rintro t ht rfl
  have : natMem t l = true := natMem_iff.2 ht
  simp [dstNot, this] at h
theorem idsMeet_spec {a b : List Id} (h : (!idsMeet a b) = true) : ∀ id ∈ a, id ∉ b := by
  intro id ha hb
  have : idsMeet a b = true := by
    simp only [idsMeet, List.any_eq_true]
    exact ⟨id, ha, hasId_mem.2 hb⟩
  rw [this] at h; cases h
theorem reach_listed {ops : Array Oper} {listed : Array Bool} (hcl : ∀ (j : Nat) (o : Oper), ops[j]? = some o → listed.getD j false = true → ∀ e ∈ o.after, Region.binds .any e = true → listed.getD e.on false = true) {i : Nat} :
    ∀ (f : Nat) (o : Oper), (∀ e ∈ o.after, Region.binds .any e = true → listed.getD e.on false = true) → reach ops.toList i f o = true → listed.getD i false = true
  | 0, _, _, h => by cases h
  | f + 1, o, ho, h => by
    simp only [reach, Bool.or_eq_true, List.any_eq_true, Bool.and_eq_true] at h
    rcases h with ⟨e, h1, h2, h3⟩ | ⟨e, h1, ⟨h2, _⟩, h3⟩
    · have := Nat.eq_of_beq_eq_true h3
      subst this
      exact ho e (by simpa using h1) h2
    · split at h3
      · rename_i o' ho'
        exact reach_listed hcl f o' (hcl e.on o' (by simpa using ho') (ho e (by simpa using h1) h2)) h3
      · cases h3
theorem forward_spec {j : Nat} {o : Oper} (h : forward j o = true) : ∀ e ∈ o.after, Region.binds .any e = true → e.on < j := by
  intro e he hb
  simp only [forward, List.all_eq_true] at h
  have := h e (by simpa using he)
  rw [hb] at this
  simpa [Nat.blt_eq] using this

theorem count_set : ∀ (l : List Bool) (i : Nat), l[i]? = some false → (l.set i true).count false + 1 = l.count false
  | [], _, h => by simp at h
  | b :: l, 0, h => by simp at h; subst h; simp
  | b :: l, i + 1, h => by
    have := count_set l i (by simpa using h)
    cases b <;> simp <;> omega

theorem evA_sound (hT : TOK P T N) (hE : EqOK P T N) {e : Entry} {ops : Array Oper} {Q : Exit → Act → World → Prop} {s s' : RS} (h : evA T (AC P T N) e.nt ops.toList s = some s') (hc : holdsC s'.c)
    (hQ : ∀ I' ρ' a' w', StRep T N e I' ρ' s'.st a' w' → Q .normal a' w') {I : Imm} {ρ : Pl} {a : Act} {w : World} (hs : StRep T N e I ρ s.st a w) (rd : Option Nat) (n : Nat) : wpAnyIn (wideR rd) n P .any ops Q ops.size (Array.replicate ops.size false) a w := by
  simp only [evA, Option.bind_eq_some_iff] at h
  obtain ⟨⟨recs, s1⟩, h1, h2⟩ := h
  obtain ⟨hok, h2⟩ := cond_some h2
  cases h2
  obtain ⟨f1, f2, f3, f4⟩ := evT_facts 0 h1 hc
  have hpair : ∀ {i j : Nat} {x y : Rec}, i < j → recs[i]? = some x → recs[j]? = some y → noConf ops.toList x y = true ∨ reach ops.toList i 12 y.o = true := fun hij hx hy => okAll_at hok hij (by simp) (by simpa using hx) (by simpa using hy)
  have hfwd : ∀ {j : Nat} {y : Rec}, recs[j]? = some y → forward j y.o = true := fun hy => okAll_fwd hok (by simp) (by simpa using hy)
  have hlen : recs.length = ops.size := by simpa using f2
  have hrec : ∀ j, j < ops.size → ∃ x, recs[j]? = some x ∧ ops[j]? = some x.o := by
    intro j hj
    refine ⟨recs[j]'(by omega), List.getElem?_eq_getElem _, ?_⟩
    have := (f4 j _ (List.getElem?_eq_getElem (by omega))).1
    simpa using this
  have main : ∀ (fuel : Nat) (listed : Array Bool) (I : Imm) (ρ : Pl) (a : Act) (w : World), listed.size = ops.size → (∀ (j : Nat) (o : Oper), ops[j]? = some o → listed.getD j false = true → ∀ e ∈ o.after, Region.binds .any e = true → listed.getD e.on false = true) →
      listed.toList.count false ≤ fuel → StRep T N e I ρ (foldX (fun i => listed.getD i false) 0 recs s.st) a w → wpAnyIn (wideR rd) n P .any ops Q fuel listed a w := by
    intro fuel
    induction fuel with
    | zero =>
      intro listed I ρ a w hsz hcl hcount hs
      have hall : ∀ i, i < ops.size → listed.getD i false = true := by
        intro i hi
        have h0 : listed.toList.count false = 0 := by omega
        rw [List.count_eq_zero] at h0
        have hi' : i < listed.size := by omega
        cases hb : listed[i] with
        | true => simp [hi', hb]
        | false => exact absurd (by rw [← hb]; simp) h0
      refine ⟨?_, ?_⟩
      · rw [List.eq_nil_iff_forall_not_mem]
        intro i hi
        obtain ⟨h3, o, h4, _⟩ := mem_ready.1 hi
        have hio := (Array.getElem?_eq_some_iff.1 h4).1
        have := hall i hio
        have hi' : i < listed.size := by omega
        simp [hi'] at h3 this
        rw [h3] at this; cases this
      · have e1 : foldX (fun i => listed.getD i false) 0 recs s.st = s1.st := by
          rw [f3]
          exact foldX_congr (fun i _ hi => hall i (by omega))
        rw [e1] at hs
        exact hQ _ _ _ _ hs
    | succ fuel ih =>
      intro listed I ρ a w hsz hcl hcount hs
      refine ⟨fun hready => ?_, fun i hi => ?_⟩
      · -- nothing is ready: all is done
        have hall : ∀ i, i < ops.size → listed.getD i false = true := by
          intro i
          induction i using Nat.strongRecOn with
          | _ i ihi =>
            intro hi
            cases hb : listed.getD i false with
            | true => rfl
            | false =>
              exfalso
              obtain ⟨x, hx1, hx2⟩ := hrec i hi
              have hf := forward_spec (hfwd hx1)
              have : i ∈ Region.ready .any ops listed := by
                rw [mem_ready]
                have hi' : i < listed.size := by omega
                refine ⟨by simpa [hi'] using hb, x.o, hx2, fun e he hbb => ?_⟩
                have h5 := hf e he hbb
                exact ihi e.on h5 (by omega)
              rw [hready] at this; cases this
        have e1 : foldX (fun i => listed.getD i false) 0 recs s.st = s1.st := by
          rw [f3]
          exact foldX_congr (fun i _ hi => hall i (by omega))
        rw [e1] at hs
        exact hQ _ _ _ _ hs
      · obtain ⟨h3, o, h4, h5⟩ := mem_ready.1 hi
        have hio := (Array.getElem?_eq_some_iff.1 h4).1
        obtain ⟨x, hx1, hx2⟩ := hrec i hio
        rw [h4] at hx2
        cases hx2
        obtain ⟨_, q2, q3, q4, gs', q5⟩ := f4 i x hx1
        simp only [Nat.zero_add] at q2 q5
        have hi' : i < listed.size := by omega
        have hXi : listed.getD i false = false := by simp [hi'] at h3 ⊢; exact h3
        -- who differs does not touch this operation
        have hdiff : ∀ (m : Nat) (y : Rec), recs[m]? = some y → listed.getD m false ≠ Nat.blt m i → dstNot y.o.dst (reads ops.toList x.o) = true ∧ (∀ id ∈ wr y.r, id ∉ x.r.f) := by
          intro m y hy hne
          rcases Nat.lt_trichotomy m i with hmi | hmi | hmi
          · have hb : Nat.blt m i = true := by rw [Nat.blt_eq]; exact hmi
            rw [hb] at hne
            have hX : listed.getD m false = false := by simpa using hne
            rcases hpair hmi hy hx1 with hn | he
            rotate_left
            · have := reach_listed hcl _ _ h5 he
              rw [hX] at this; cases this
            · simp only [noConf, Bool.and_eq_true] at hn
              exact ⟨hn.1.1.1.1, fun id hid hf => idsMeet_spec hn.1.2 id hid (List.mem_append_left _ hf)⟩
          · subst hmi
            have hb : Nat.blt m m = false := by
              cases hb : Nat.blt m m with
              | false => rfl
              | true => have := blt_lt hb; omega
            rw [hXi, hb] at hne; exact absurd rfl hne
          · have hb : Nat.blt m i = false := by
              cases hb : Nat.blt m i with
              | false => rfl
              | true => have := blt_lt hb; omega
            rw [hb] at hne
            have hX : listed.getD m false = true := by simpa using hne
            obtain ⟨y', hy1, hy2⟩ := hrec m (by have := (List.getElem?_eq_some_iff.1 hy).1; omega)
            rw [hy] at hy1; cases hy1
            rcases hpair hmi hx1 hy with hn | he
            rotate_left
            · have := reach_listed hcl _ _ (hcl m y.o hy2 hX) he
              rw [hXi] at this; cases this
            · simp only [noConf, Bool.and_eq_true] at hn
              exact ⟨hn.1.1.1.2, idsMeet_spec hn.2⟩
        have ht : ∀ k ∈ reads ops.toList x.o, (foldX (fun i => listed.getD i false) 0 recs s.st).t k = (foldX (fun m => Nat.blt m i) 0 recs s.st).t k := fun k hk =>
          foldX_t rfl (fun m y hy hne => dstNot_spec (hdiff m y hy (by simpa using hne)).1 k hk)
        have hm : ∀ id ∈ x.r.f, (foldX (fun i => listed.getD i false) 0 recs s.st).m id = (foldX (fun m => Nat.blt m i) 0 recs s.st).m id := fun id hid =>
          foldX_m rfl (fun m y hy hne hw => (hdiff m y hy (by simpa using hne)).2 id hw hid)
        have hg := (guardD_same ht).trans q2
        have ho := evO_same q5 (fun k hk => ht k (by unfold reads; exact List.mem_append_right _ hk)) hm
        have hstep := step_sound (Q := Q) hT hE hs hg ho q4 q3 (K := wpAnyIn (wideR rd) n P .any ops Q fuel (listed.setIfInBounds i true)) (rd := rd) (n := n) (fun I' ρ' a' w' hs' => by
          refine ih (listed.setIfInBounds i true) I' ρ' a' w' (by simp [hsz]) ?_ ?_ ?_
          · intro j oj hj hXj e' he' hb'
            by_cases hji : j = i
            · subst hji
              rw [h4] at hj; cases hj
              exact getD_set_true (h5 e' he' hb')
            · rw [getD_set_ne false (Ne.symm hji)] at hXj
              exact getD_set_true (hcl j oj hj hXj e' he' hb')
          · rw [Array.toList_setIfInBounds]
            have := count_set listed.toList i (by simp [hi'] at h3 ⊢; exact h3)
            omega
          · have e1 : foldX (fun j => (listed.setIfInBounds i true).getD j false) 0 recs s.st = (foldX (fun i => listed.getD i false) 0 recs s.st).after x.o x.G x.r := by
              refine foldX_add hx1 (by simpa using hXi) (by simp [hi']) (fun j hj => by rw [getD_set_ne false (by omega)]) (fun j y hij hy hXj => ?_)
              obtain ⟨y', hy1, hy2⟩ := hrec j (by have := (List.getElem?_eq_some_iff.1 hy).1; omega)
              rw [hy] at hy1; cases hy1
              rcases hpair hij hx1 hy with hn | he
              rotate_left
              · have := reach_listed hcl _ _ (hcl j y.o hy2 (by simpa using hXj)) he
                rw [hXi] at this; cases this
              · simp only [noConf, Bool.and_eq_true] at hn
                exact ⟨hn.1.1.2, fun id hid hf => idsMeet_spec hn.1.2 id hid (List.mem_append_right _ hf)⟩
            rw [e1]
            exact hs')
        unfold wpOpIn
        simp only [h4]
        by_cases hw : Region.wanted x.o (yielded ops a.tmps) = true
        · rw [if_pos hw] at hstep
          rw [if_pos hw]
          exact hstep
        · rw [if_neg hw] at hstep
          rw [if_neg hw]
          exact ⟨fun _ _ => trivial, hstep⟩
  refine main ops.size (Array.replicate ops.size false) I ρ a w (by simp) ?_ ?_ ?_
  · intro j o hj hX
    exfalso
    have hjo := (Array.getElem?_eq_some_iff.1 hj).1
    simp [hjo] at hX
  · simp
  · have e1 : foldX (fun i => (Array.replicate ops.size false).getD i false) 0 recs s.st = s.st := foldX_none (fun i _ => by
      by_cases hi : i < ops.size
      · simp [hi]
      · simp [hi])
    rw [e1]; exact hs
end
end Go.Ab

/- Ab, part 21: values alike; what is frozen; states said anew. -/
set_option autoImplicit false
set_option linter.unusedVariables false
namespace Go.Ab

mutual
def CV (S : AV → AV → Prop) : AV → AV → Prop
  | .agg t n g, y => ∃ g', y = .agg t n g' ∧ ∀ i, i < n → CV S (g i) (g' i)
  | .row e f n g, y => ∃ f' g', y = .row e f' n g' ∧ (f' = true → f = true) ∧ ∀ i, i < n → CV S (g i) (g' i)
  | .rp t x, y => ∃ x', y = .rp t x' ∧ CV S x x'
  | .clo f cs, y => ∃ cs', y = .clo f cs' ∧ CVL S cs cs'
  | .tup vs, y => ∃ vs', y = .tup vs' ∧ CVL S vs vs'
  | .v x, y => S (.v x) y
  | .own id n i len cap, y => S (.own id n i len cap) y
  | .arr id n i p lo len hi, y => S (.arr id n i p lo len hi) y
  | .ptr id n i p, y => S (.ptr id n i p) y
  | .mp id, y => S (.mp id) y
def CVL (S : AV → AV → Prop) : List AV → List AV → Prop
  | [], l => l = []
  | x :: r, l => ∃ y r', l = y :: r' ∧ CV S x y ∧ CVL S r r'
end
mutual
theorem CV.refl {S : AV → AV → Prop} (h : ∀ x, S x x) : ∀ x, CV S x x
  | .agg t n g => ⟨g, rfl, fun i _ => CV.refl h (g i)⟩
  | .row e f n g => ⟨f, g, rfl, fun h => h, fun i _ => CV.refl h (g i)⟩
  | .rp t x => ⟨x, rfl, CV.refl h x⟩
  | .clo f cs => ⟨cs, rfl, CVL.refl h cs⟩
  | .tup vs => ⟨vs, rfl, CVL.refl h vs⟩
  | .v x => h _
  | .own id n i len cap => h _
  | .arr id n i p lo len hi => h _
  | .ptr id n i p => h _
  | .mp id => h _
theorem CVL.refl {S : AV → AV → Prop} (h : ∀ x, S x x) : ∀ l, CVL S l l
  | [] => rfl
  | x :: r => ⟨x, r, rfl, CV.refl h x, CVL.refl h r⟩
end
def AEq : AV → AV → Prop := CV (fun x y => x = y)
theorem AEq.refl (x : AV) : AEq x x := CV.refl (fun _ => rfl) x
theorem AEq.agg {t n : Nat} {g g' : Nat → AV} (h : ∀ i, i < n → AEq (g i) (g' i)) : AEq (.agg t n g) (.agg t n g') := ⟨g', rfl, h⟩
theorem AEq.row {e n : Nat} {f f' : Bool} {g g' : Nat → AV} (hf : f' = true → f = true) (h : ∀ i, i < n → AEq (g i) (g' i)) : AEq (.row e f n g) (.row e f' n g') := ⟨f', g', rfl, hf, h⟩
theorem AEq.of_eq {x y : AV} (h : x = y) : AEq x y := h ▸ AEq.refl x

def Fz (m : Id → Option Ob) (F : Id → Nat) (T : Nat → TI) (x y : AV) : Prop := x = y ∨ match x with
  | .v v => v = .slice none 0 0 ∧ ((∃ id cap, y = .own id 0 0 0 cap) ∨ ∃ e f g, y = .row e f 0 g ∧ 0 < (T e).size)
  | .own id n i len cap => ∃ B f g', m id = some (.cells B) ∧ B.n = n ∧ y = .row B.ty f len g' ∧ (f = true → fullC len cap = true) ∧ i + len ≤ F id ∧ ∀ j, j < len → noIds (B.get (i + j)) = true ∧ AEq (B.get (i + j)) (g' j)
  | .ptr id n i p => ∃ B t y', m id = some (.cells B) ∧ B.n = n ∧ y = .rp t y' ∧ i < F id ∧ pathTy T B.ty p = some t ∧ noIds ((B.get i).at p) = true ∧ AEq ((B.get i).at p) y'
  | _ => False
def Conv (m : Id → Option Ob) (F : Id → Nat) (T : Nat → TI) : AV → AV → Prop := CV (Fz m F T)

section
variable {P : Program} {T : Nat → TI} {N : Nat}
theorem CVL_at {S : AV → AV → Prop} : ∀ {l l' : List AV}, CVL S l l' → l'.length = l.length ∧ ∀ (i : Nat) (y : AV), l'[i]? = some y → ∃ x, l[i]? = some x ∧ CV S x y
  | [], l', h => by cases (show l' = [] from h); exact ⟨rfl, fun i y hi => by simp at hi⟩
  | x :: r, l', h => by
    obtain ⟨y, r', rfl, h1, h2⟩ := h
    obtain ⟨h3, h4⟩ := CVL_at h2
    refine ⟨by simp [h3], fun i z hi => ?_⟩
    cases i with
    | zero => simp at hi; subst hi; exact ⟨x, rfl, h1⟩
    | succ i => simpa using h4 i z (by simpa using hi)
def isLeaf : AV → Bool
  | .v _ | .own .. | .arr .. | .ptr .. | .mp _ => true
  | _ => false

def LeafOK (T : Nat → TI) (N : Nat) (I I' : Imm) (ρ0 : Pl) (S : AV → AV → Prop) : Prop :=
  ∀ (ρ : Pl) (x y : AV) (cs : List Value), (∀ id p, ρ id = some p → ρ0 id = some p) → isLeaf x = true → S x y → Rep T N I ρ x cs → Rep T N I' ρ y cs ∧ ∀ t, fit T t y = fit T t x
theorem Rep.cv {I I' : Imm} {ρ0 : Pl} {S : AV → AV → Prop} (hI : ImLe I I') (hS : LeafOK T N I I' ρ0 S) {ρ : Pl} {x : AV} {cs : List Value} (h : Rep T N I ρ x cs) : (∀ id p, ρ id = some p → ρ0 id = some p) → ∀ y, CV S x y → Rep T N I' ρ y cs ∧ ∀ t, fit T t y = fit T t x := by
  induction h with
  | v h => intro hρ y hy; exact hS _ _ _ _ hρ rfl hy (.v h)
  | struct fs segs hk hn ht h hf hl ih =>
    rintro hρ y ⟨g', rfl, hy⟩
    refine ⟨.struct fs segs hk hn ht (fun i u hu => (ih i u hu hρ _ (hy i (by rw [← hn]; exact (List.getElem?_eq_some_iff.1 hu).1))).1) (fun i u hu => ?_) hl, fun t => rfl⟩
    rw [(ih i u hu hρ _ (hy i (by rw [← hn]; exact (List.getElem?_eq_some_iff.1 hu).1))).2]; exact hf i u hu
  | array e segs hk ht h hf hl ih =>
    rintro hρ y ⟨g', rfl, hy⟩
    refine ⟨.array e segs hk ht (fun i h' => (ih i h' hρ _ (hy i h')).1) (fun i h' => ?_) hl, fun t => rfl⟩
    rw [(ih i h' hρ _ (hy i h')).2]; exact hf i h'
  | row b off cap segs he hc hm hfull h hf hl hi ih =>
    rintro hρ y ⟨f', g', rfl, hff, hy⟩
    refine ⟨.row b off cap segs he hc hm (fun e => hfull (hff e)) (fun i h' => (ih i h' (fun id p hp => by simp [noPl] at hp) _ (hy i h')).1) (fun i h' => ?_) hl (fun i hi' o ho => ?_), fun t => rfl⟩
    · rw [(ih i h' (fun id p hp => by simp [noPl] at hp) _ (hy i h')).2]; exact hf i h'
    · have h1 := hi i hi' o ho
      have h2 : o < (segs i).length := by rw [hl i hi']; exact ho
      rw [List.getElem?_eq_getElem h2] at h1 ⊢
      exact hI _ _ _ h1
  | row0 he =>
    rintro hρ y ⟨f', g', rfl, hff, hy⟩
    exact ⟨.row0 he, fun t => rfl⟩
  | rp b off seg ht h hf hl hi ih =>
    rintro hρ y ⟨x', rfl, hy⟩
    obtain ⟨g1, g2⟩ := ih (fun id p hp => by simp [noPl] at hp) _ hy
    refine ⟨.rp b off seg ht g1 (by rw [g2]; exact hf) hl (fun o ho => ?_), fun t => rfl⟩
    have h1 := hi o ho
    have h2 : o < seg.length := by rw [hl]; exact ho
    rw [List.getElem?_eq_getElem h2] at h1 ⊢
    exact hI _ _ _ h1
  | own p hp hn hx1 hx => intro hρ y hy; exact hS _ _ _ _ hρ rfl hy (.own p hp hn hx1 hx)
  | own0 => intro hρ y hy; exact hS _ _ _ _ hρ rfl hy .own0
  | arr p hp hn hx1 hx => intro hρ y hy; exact hS _ _ _ _ hρ rfl hy (.arr p hp hn hx1 hx)
  | ptr p hp hn hx1 hx => intro hρ y hy; exact hS _ _ _ _ hρ rfl hy (.ptr p hp hn hx1 hx)
  | clo ys hl h ih =>
    rintro hρ y ⟨cs', rfl, hy⟩
    obtain ⟨h1, h2⟩ := CVL_at hy
    refine ⟨.clo ys (by rw [h1]; exact hl) (fun i c hc => ?_), fun t => rfl⟩
    obtain ⟨x', h3, h4⟩ := h2 i c hc
    exact (ih i x' h3 hρ _ h4).1
  | mp p hp hx1 hx => intro hρ y hy; exact hS _ _ _ _ hρ rfl hy (.mp p hp hx1 hx)
theorem leaf_eq (I I' : Imm) (ρ0 : Pl) (hI : ImLe I I') : LeafOK T N I I' ρ0 (fun x y => x = y) := by
  rintro ρ x y cs hρ _ rfl h
  exact ⟨h.mono hI (PlLe.refl _), fun t => rfl⟩
theorem Rep.aeq {I : Imm} {ρ : Pl} {x y : AV} {cs : List Value} (h : Rep T N I ρ x cs) (hy : AEq x y) : Rep T N I ρ y cs ∧ ∀ t, fit T t y = fit T t x :=
  h.cv (ImLe.refl _) (leaf_eq I I ρ (ImLe.refl _)) (fun _ _ h => h) y hy
theorem packV_cv {S : AV → AV → Prop} (hS : ∀ x y, isLeaf x = true → S x y → ∀ t n g, y ≠ .agg t n g) {x y : AV} (h : CV S x y) (cs : List Value) : packV y cs = packV x cs := by
  have leaf : ∀ x y : AV, isLeaf x = true → S x y → packV y cs = packV x cs := by
    intro x y hx h
    have h1 := hS x y hx h
    unfold packV
    split
    · exact absurd rfl (h1 _ _ _)
    · split
      · cases hx
      · rfl
  cases x with
  | agg t n g => obtain ⟨g', rfl, _⟩ := h; rfl
  | row e f n g => obtain ⟨f', g', rfl, _⟩ := h; rfl
  | rp t x => obtain ⟨x', rfl, _⟩ := h; rfl
  | clo f cs => obtain ⟨cs', rfl, _⟩ := h; rfl
  | tup vs => obtain ⟨vs', rfl, _⟩ := h; rfl
  | _ => exact leaf _ _ rfl h

theorem fz_leaf (hT : TOK P T N) {I : Imm} {ρ0 : Pl} {m : Id → Option Ob} {w : World} (hw : WRep T N I ρ0 m w) {I' : Imm} (hI : ImLe I I') {F : Id → Nat}
    (hF : ∀ id B q cs, m id = some (.cells B) → ρ0 id = some q → w.heap[q.b]? = some (.cells cs B.ty (0, 0)) → F id ≤ B.n ∧ ∀ j, j < F id * (T B.ty).size → I' q.b j = cs[j]?) : LeafOK T N I I' ρ0 (Fz m F T) := by
  intro ρ x y cs hρ hl h hx
  rcases h with rfl | h
  · exact ⟨hx.mono hI (PlLe.refl _), fun t => rfl⟩
  · split at h
    · obtain ⟨rfl, ⟨id, cap, rfl⟩ | ⟨e, f, g, rfl, hp⟩⟩ := h
      · cases hx; exact ⟨.own0, fun t => rfl⟩
      · cases hx; exact ⟨.row0 (hT.lt_size hp), fun t => rfl⟩
    · rename_i id n i len cap
      obtain ⟨B, f, g', hm, hB, rfl, hf, hle, hel⟩ := h
      refine ⟨?_, fun t => rfl⟩
      cases hx with
      | own0 => exact .row0 (hw.ty_lt hm)
      | own p hp hn hx1 hx =>
        have hp0 := hρ _ _ hp
        obtain ⟨q', cs, c1, c2, c3, c4, c5, c6, c7, c8, c9, c10⟩ := hw.cellsAt hm hp0
        rw [hp0] at c1; cases c1
        obtain ⟨c, rfl, g1, g2, g3, g4, g5, g6⟩ := hx (by rw [c3, hB])
        obtain ⟨f1, f2⟩ := hF id B p cs hm hp0 c5
        have hex : ∀ k, ∃ seg, k < len → Rep T N I ρ0 (B.get (i + k)) seg ∧ fit T B.ty (B.get (i + k)) = true ∧ seg.length = (T B.ty).size ∧ ∀ o, o < (T B.ty).size → cs[(i + k) * (T B.ty).size + o]? = seg[o]? := by
          intro k
          by_cases hk : k < len
          · obtain ⟨seg, hs⟩ := c8 (i + k) (by omega)
            exact ⟨seg, fun _ => hs⟩
          · exact ⟨[], fun h => absurd h hk⟩
        have hseg := fun k => Classical.choose_spec (hex k)
        refine .row p.b (i * (T p.ty).size) c (fun k => Classical.choose (hex k)) c4 g1 g2 (fun h => g6 _ (fullC_eq (hf h))) (fun k hk => ((((hseg k hk).1.noIds (hel k hk).1 noPl).mono hI (PlLe.refl _)).aeq (hel k hk).2).1) (fun k hk => ?_) (fun k hk => (hseg k hk).2.2.1) (fun k hk o ho => ?_)
        · rw [((hseg k hk).1.aeq (hel k hk).2).2]; exact (hseg k hk).2.1
        · have h1 := (hseg k hk).2.2.2 o ho
          rw [← h1, c2]
          have e1 : i * (T B.ty).size + (k * (T B.ty).size + o) = (i + k) * (T B.ty).size + o := by rw [Nat.add_mul]; omega
          have e2 : (i + k + 1) * (T B.ty).size ≤ F id * (T B.ty).size := Nat.mul_le_mul_right _ (by omega)
          rw [Nat.succ_mul] at e2
          rw [e1]
          exact f2 _ (by omega)
    · rename_i id n i p
      obtain ⟨B, t, y', hm, hB, rfl, hlt, hpt, hno, hel⟩ := h
      refine ⟨?_, fun t => rfl⟩
      cases hx with
      | ptr q hp hn hx1 hx =>
        have hp0 := hρ _ _ hp
        obtain ⟨q', cs, c1, c2, c3, c4, c5, c6, c7, c8, c9, c10⟩ := hw.cellsAt hm hp0
        rw [hp0] at c1; cases c1
        obtain ⟨hi, hpi, rfl⟩ := hx (by rw [c3, hB])
        obtain ⟨f1, f2⟩ := hF id B q cs hm hp0 c5
        have hpi' : pathIn T B.ty p := c2 ▸ hpi
        obtain ⟨sg, r1, r2, r3, r4⟩ := c8 i (by omega)
        obtain ⟨seg, k1, k2, k3, k4⟩ := r1.at p r2 r3 hpt hpi'
        have hle := pathOff_le r1 r2 r3 hpt hpi'
        have ha := ((k1.noIds hno noPl).mono hI (PlLe.refl _)).aeq hel
        refine .rp q.b (i * (T q.ty).size + pathOff T q.ty p) seg (hT.pathLt p c4 hpt) ha.1 (by rw [ha.2]; exact k2) k3 (fun o ho => ?_)
        rw [c2, ← k4 o ho]
        have e2 : (i + 1) * (T B.ty).size ≤ F id * (T B.ty).size := Nat.mul_le_mul_right _ (by omega)
        rw [Nat.succ_mul] at e2
        rw [Nat.add_assoc, f2 _ (by omega), r4 _ (by omega)]
    · exact h.elim
end
end Go.Ab

/- Ab, part 22: states said anew. -/
set_option autoImplicit false
set_option linter.unusedVariables false
namespace Go.Ab

def lookN (k : Nat) : List (Nat × AV) → Option AV
  | [] => none
  | (j, x) :: r => bif Nat.beq k j then some x else lookN k r
def lookI (id : Id) : List (Id × Ob) → Option Ob
  | [] => none
  | (j, x) :: r => bif Id.beq id j then some x else lookI id r
def lookF (id : Id) : List (Id × Nat) → Nat
  | [] => 0
  | (j, x) :: r => bif Id.beq id j then x else lookF id r
def mkSt (ts : List (Nat × AV)) (ms : List (Id × Ob)) : St := ⟨fun k => (lookN k ts).map fun x => (.always, x), fun id => lookI id ms⟩

def ObC (m : Id → Option Ob) (F : Id → Nat) (T : Nat → TI) (k : Nat) : Ob → Ob → Prop
  | .cells B, o => ∃ get fz, o = .cells ⟨B.ty, B.n, get, fz⟩ ∧ B.fz ≤ fz ∧ k ≤ fz ∧ fz ≤ B.n ∧ ∀ i, i < B.n → Conv m F T (B.get i) (get i)
  | .map es, o => o = .map es ∨ ∃ es', o = .map es' ∧ es'.length = es.length ∧ ∀ (i : Nat) (p' : AV × AV), es'[i]? = some p' → ∃ p, es[i]? = some p ∧ Conv m F T p.1 p'.1 ∧ Conv m F T p.2 p'.2
def entT (T : Nat → TI) (st : St) (F : List (Id × Nat)) (keep : List Id) : List (Nat × AV) → Prop
  | [] => True
  | (k, x) :: r => (okIds keep x = true ∧ ∃ x', st.t k = some (.always, x') ∧ Conv st.m (fun id => lookF id F) T x' x) ∧ entT T st F keep r
def entM (T : Nat → TI) (st : St) (F : List (Id × Nat)) (keep : List Id) : List (Id × Ob) → Prop
  | [] => True
  | (id, o) :: r => (okO keep o ∧ ((∃ o', st.m id = some o' ∧ ObC st.m (fun id => lookF id F) T (lookF id F) o' o) ∨
      (st.m id = none ∧ ∃ e get, o = .cells ⟨e, 0, get, 0⟩ ∧ 0 < (T e).size))) ∧ entM T st F keep r
def entF (st : St) : List (Id × Nat) → Prop
  | [] => True
  | (id, k) :: r => (∃ B, st.m id = some (.cells B) ∧ k ≤ B.n) ∧ entF st r

section
variable {P : Program} {T : Nat → TI} {N : Nat}
theorem lookN_some {k : Nat} : ∀ {l : List (Nat × AV)} {x : AV}, lookN k l = some x → (k, x) ∈ l
  | [], _, h => by cases h
  | (j, y) :: r, x, h => by
    by_cases e : k = j
    · subst e; simp [lookN] at h; subst h; simp
    · simp only [lookN, nbeq_ne e, cond_false] at h
      exact List.mem_cons_of_mem _ (lookN_some h)
theorem lookI_some {id : Id} : ∀ {l : List (Id × Ob)} {x : Ob}, lookI id l = some x → (id, x) ∈ l
  | [], _, h => by cases h
  | (j, y) :: r, x, h => by
    by_cases e : id = j
    · subst e; simp [lookI, idbeq_self] at h; subst h; simp
    · simp only [lookI, idbeq_ne e, cond_false] at h
      exact List.mem_cons_of_mem _ (lookI_some h)
theorem lookI_has {id : Id} : ∀ {l : List (Id × Ob)}, hasId (l.map (·.1)) id = true → lookI id l ≠ none
  | [], h => by cases h
  | (j, y) :: r, h => by
    by_cases e : id = j
    · subst e; simp [lookI, idbeq_self]
    · simp only [lookI, idbeq_ne e, cond_false]
      refine lookI_has ?_
      rw [hasId_mem] at h ⊢
      simp only [List.map_cons, List.mem_cons] at h
      exact h.resolve_left e
theorem lookI_keep {id : Id} {l : List (Id × Ob)} {x : Ob} (h : lookI id l = some x) : hasId (l.map (·.1)) id = true := by
  rw [hasId_mem]; exact List.mem_map.2 ⟨_, lookI_some h, rfl⟩
theorem entT_at {st : St} {F : List (Id × Nat)} {keep : List Id} : ∀ {l : List (Nat × AV)} {k : Nat} {x : AV}, entT T st F keep l → (k, x) ∈ l → okIds keep x = true ∧ ∃ x', st.t k = some (.always, x') ∧ Conv st.m (fun id => lookF id F) T x' x
  | [], _, _, _, h => by cases h
  | (j, y) :: r, k, x, h, hm => by
    cases hm with
    | head => exact h.1
    | tail _ hm => exact entT_at h.2 hm
theorem entM_at {st : St} {F : List (Id × Nat)} {keep : List Id} : ∀ {l : List (Id × Ob)} {id : Id} {o : Ob}, entM T st F keep l → (id, o) ∈ l → okO keep o ∧ ((∃ o', st.m id = some o' ∧ ObC st.m (fun id => lookF id F) T (lookF id F) o' o) ∨
      (st.m id = none ∧ ∃ e get, o = .cells ⟨e, 0, get, 0⟩ ∧ 0 < (T e).size))
  | [], _, _, _, h => by cases h
  | (j, y) :: r, k, x, h, hm => by
    cases hm with
    | head => exact h.1
    | tail _ hm => exact entM_at h.2 hm
theorem entF_at {st : St} : ∀ {l : List (Id × Nat)}, entF st l → ∀ {id : Id} {B : Blk}, st.m id = some (.cells B) → lookF id l ≤ B.n
  | [], _, _, _, _ => Nat.zero_le _
  | (j, k) :: r, h, id, B, hm => by
    by_cases e : id = j
    · subst e
      obtain ⟨B', h1, h2⟩ := h.1
      rw [hm] at h1; cases h1
      simpa [lookF, idbeq_self] using h2
    · simp only [lookF, idbeq_ne e, cond_false]
      exact entF_at h.2 hm

def keepP (keep : List Id) (ρ : Pl) : Pl := fun id => if hasId keep id = true then ρ id else none
theorem Rep.keep {I : Imm} {ρ : Pl} {x : AV} {cs : List Value} (h : Rep T N I ρ x cs) : ∀ {keep : List Id}, okIds keep x = true → Rep T N I (keepP keep ρ) x cs := by
  have hk : ∀ {ρ : Pl} {keep : List Id} {id : Id} {p : Place}, hasId keep id = true → ρ id = some p → keepP keep ρ id = some p := fun h hp => by unfold keepP; rw [if_pos h]; exact hp
  induction h with
  | v h => intro _ _; exact .v h
  | struct fs segs hkk hn ht h hf hl ih =>
    intro keep hi
    simp only [okIds, List.all_eq_true, List.mem_range] at hi
    exact .struct fs segs hkk hn ht (fun i u hu => ih i u hu (hi i (by rw [← hn]; exact (List.getElem?_eq_some_iff.1 hu).1))) hf hl
  | array e segs hkk ht h hf hl ih =>
    intro keep hi
    simp only [okIds, List.all_eq_true, List.mem_range] at hi
    exact .array e segs hkk ht (fun i h' => ih i h' (hi i h')) hf hl
  | row b off cap segs he hc hm hfull h hf hl hI ih => intro _ _; exact .row b off cap segs he hc hm hfull h hf hl hI
  | row0 he => intro _ _; exact .row0 he
  | rp b off seg ht h hf hl hI => intro _ _; exact .rp b off seg ht h hf hl hI
  | own p hp hn hx1 hx => intro keep hi; exact .own p (hk hi hp) hn hx1 hx
  | own0 => intro _ _; exact .own0
  | arr p hp hn hx1 hx => intro keep hi; exact .arr p (hk hi hp) hn hx1 hx
  | ptr p hp hn hx1 hx => intro keep hi; exact .ptr p (hk hi hp) hn hx1 hx
  | clo ys hl h ih =>
    intro keep hi
    simp only [okIds, okIdsL_eq, List.all_eq_true] at hi
    exact .clo ys hl (fun i c hc => ih i c hc (hi c (List.mem_of_getElem? hc)))
  | mp p hp hx1 hx => intro keep hi; exact .mp p (hk hi hp) hx1 hx
theorem Rep1.keep {I : Imm} {ρ : Pl} {x : AV} {y : Value} (h : Rep1 T N I ρ x y) {keep : List Id} (hk : okIds keep x = true) : Rep1 T N I (keepP keep ρ) x y := by
  obtain ⟨cs, h1, h2⟩ := h
  exact ⟨cs, h1.keep hk, h2⟩
theorem RepV.keep {I : Imm} {ρ : Pl} {x : AV} {y : Value} (h : RepV T N I ρ x y) {keep : List Id} (hk : okIds keep x = true) : RepV T N I (keepP keep ρ) x y := by
  cases h with
  | one h => exact .one (h.keep hk)
  | tup ys hl h =>
    simp only [okIds, okIdsL_eq, List.all_eq_true] at hk
    exact .tup ys hl (fun i c hc => (h i c hc).keep (hk c (List.mem_of_getElem? hc)))
theorem fz_noagg {m : Id → Option Ob} {F : Id → Nat} (x y : AV) (hx : isLeaf x = true) (h : Fz m F T x y) : ∀ t n g, y ≠ .agg t n g := by
  rintro t n g rfl
  rcases h with rfl | h
  · cases hx
  · split at h
    · obtain ⟨_, ⟨_, _, h⟩ | ⟨_, _, _, h, _⟩⟩ := h <;> cases h
    · obtain ⟨_, _, _, _, _, h, _⟩ := h; cases h
    · obtain ⟨_, _, _, _, _, h, _⟩ := h; cases h
    · exact h
theorem RepV.conv {I I' : Imm} {ρ : Pl} {m : Id → Option Ob} {F : Id → Nat} {x y : AV} {v : Value} (h : RepV T N I ρ x v) (hI : ImLe I I') (hS : LeafOK T N I I' ρ (Fz m F T)) (hc : Conv m F T x y) : RepV T N I' ρ y v := by
  have one : ∀ {x y : AV} {v : Value}, Rep1 T N I ρ x v → Conv m F T x y → Rep1 T N I' ρ y v := by
    rintro x y v ⟨cs, h1, h2⟩ hc
    exact ⟨cs, (h1.cv hI hS (fun _ _ h => h) y hc).1, by rw [packV_cv fz_noagg hc]; exact h2⟩
  cases h with
  | one h => exact .one (one h hc)
  | tup ys hl h =>
    obtain ⟨vs', rfl, hv⟩ := hc
    obtain ⟨h1, h2⟩ := CVL_at hv
    refine .tup ys (by rw [h1]; exact hl) (fun i c hi => ?_)
    obtain ⟨x', h3, h4⟩ := h2 i c hi
    exact one (h i x' h3) h4
theorem Rep1.conv {I I' : Imm} {ρ : Pl} {m : Id → Option Ob} {F : Id → Nat} {x y : AV} {v : Value} (h : Rep1 T N I ρ x v) (hI : ImLe I I') (hS : LeafOK T N I I' ρ (Fz m F T)) (hc : Conv m F T x y) : Rep1 T N I' ρ y v := by
  obtain ⟨cs, h1, h2⟩ := h
  exact ⟨cs, (h1.cv hI hS (fun _ _ h => h) y hc).1, by rw [packV_cv fz_noagg hc]; exact h2⟩

open Classical in
noncomputable def frzI (T : Nat → TI) (I : Imm) (ρ : Pl) (m : Id → Option Ob) (w : World) (F : Id → Nat) : Imm := fun b o =>
  if ∃ id q B, ρ id = some q ∧ m id = some (.cells B) ∧ q.b = b ∧ o < F id * (T B.ty).size then w.cell? ⟨b, o, none⟩ else I b o

theorem ent_mk (hT : TOK P T N) {e : Entry} {st : St} (F : List (Id × Nat)) {ts : List (Nat × AV)} {ms : List (Id × Ob)} (hF : entF st F) (ht : entT T st F (ms.map (·.1)) ts) (hm : entM T st F (ms.map (·.1)) ms) (hb : (bs e.nb).all (hasId (ms.map (·.1))) = true)
    {I : Imm} {ρ : Pl} {a : Act} {w : World} (hs : StRep T N e I ρ st a w) : ∃ I' ρ', StRep T N e I' ρ' (mkSt ts ms) a w := by
  have hw := hs.wr
  have hcond : ∀ {b o : Nat}, (∃ id q B, ρ id = some q ∧ st.m id = some (.cells B) ∧ q.b = b ∧ o < lookF id F * (T B.ty).size) → ∃ id q B cs, ρ id = some q ∧ st.m id = some (.cells B) ∧ q.b = b ∧ o < lookF id F * (T B.ty).size ∧ w.heap[b]? = some (.cells cs B.ty (0, 0)) ∧ o < cs.size ∧ w.cell? ⟨b, o, none⟩ = cs[o]? := by
    rintro b o ⟨id, q, B, h1, h2, rfl, h4⟩
    obtain ⟨q', cs, c1, c2, c3, c4, c5, c6, c7, c8, c9, c10⟩ := hw.cellsAt h2 h1
    rw [h1] at c1; cases c1
    have : lookF id F * (T B.ty).size ≤ B.n * (T B.ty).size := Nat.mul_le_mul_right _ (entF_at hF h2)
    exact ⟨id, q, B, cs, h1, h2, rfl, h4, c5, by omega, by simp [World.cell?, c5]⟩
  have hI : ImLe I (frzI T I ρ st.m w (fun id => lookF id F)) := by
    intro b o y h
    unfold frzI
    split
    · exact hw.imm b o y h
    · exact h
  have hS := fz_leaf hT hw hI (F := fun id => lookF id F) (fun id B q cs h1 h2 h3 => ⟨entF_at hF h1, fun j hj => by
    unfold frzI
    rw [if_pos ⟨id, q, B, h2, h1, rfl, hj⟩]
    simp [World.cell?, h3]⟩)
  have hkeepI : ∀ {id : Id} {o : Ob}, lookI id ms = some o → keepP (ms.map (·.1)) ρ id = ρ id := fun h => by unfold keepP; rw [if_pos (lookI_keep h)]
  have hkp : ∀ {id : Id} {p : Place}, keepP (ms.map (·.1)) ρ id = some p → ρ id = some p ∧ hasId (ms.map (·.1)) id = true := fun {id p} h => by
    unfold keepP at h
    split at h
    · rename_i hh; exact ⟨h, hh⟩
    · cases h
  refine ⟨frzI T I ρ st.m w (fun id => lookF id F), keepP (ms.map (·.1)) ρ, ⟨⟨?_, ?_, ?_, ?_, ?_, fun b o n h => hI _ _ _ (hw.gl b o n h)⟩, ?_, hs.nt, ⟨hs.df.1.sub (fun id p hp => ⟨id, (hkp hp).1⟩), hs.df.2⟩, ?_, hs.eb⟩⟩
  · intro id B' hB'
    have hB' : lookI id ms = some (.cells B') := hB'
    obtain ⟨hok, h⟩ := entM_at hm (lookI_some hB')
    rcases h with ⟨o', h1, h2⟩ | ⟨h1, e', get, h2, h3⟩
    · cases o' with
      | map es => rcases h2 with h2 | ⟨es', h2, _⟩ <;> cases h2
      | cells B =>
        obtain ⟨get, fz, h2, h3, h4, h5, h6⟩ := h2
        cases h2
        rcases hw.cells id B h1 with ⟨d1, d2, d3, d4⟩ | ⟨p, cs, d1, d2, d3, d4, d5, d6, d7, d8, d9, d10⟩
        · exact .inl ⟨by rw [hkeepI hB']; exact d1, d2, by simp only; omega, d4⟩
        · refine .inr ⟨p, cs, by rw [hkeepI hB']; exact d1, d2, d3, d4, d5, d6, d7, fun i hi => ?_, fun j hj => ?_, h5⟩
          · obtain ⟨seg, e1, e2, e3, e4⟩ := d8 i hi
            obtain ⟨g1, g2⟩ := e1.cv hI hS (fun _ _ h => h) _ (h6 i hi)
            exact ⟨seg, g1.keep (hok i hi), by rw [g2]; exact e2, e3, e4⟩
          · unfold frzI at hj
            split at hj
            · rename_i hcd
              obtain ⟨id2, q2, B2, k1, k2, k3, k4⟩ := hcd
              have := hw.inj id2 id q2 p k1 d1 k3
              subst this
              rw [h1] at k2; cases k2
              exact Nat.lt_of_lt_of_le k4 (Nat.mul_le_mul_right _ h4)
            · exact Nat.lt_of_lt_of_le (d9 j hj) (Nat.mul_le_mul_right _ h3)
    · cases h2
      exact .inl ⟨by rw [hkeepI hB']; exact hw.none_place h1, rfl, rfl, hT.lt_size h3⟩
  · intro id es' hB'
    have hB' : lookI id ms = some (.map es') := hB'
    obtain ⟨hok, h⟩ := entM_at hm (lookI_some hB')
    rcases h with ⟨o', h1, h2⟩ | ⟨h1, e', get, h2, h3⟩
    · cases o' with
      | cells B => obtain ⟨get, fz, h2, _⟩ := h2; cases h2
      | map es =>
        obtain ⟨p, en, cl, d1, d2, d3, d4, d5, d6⟩ := hw.maps id es h1
        have hd5 : ∀ j, frzI T I ρ st.m w (fun id => lookF id F) p.b j = none := by
          intro j
          unfold frzI
          split
          · rename_i hcd
            obtain ⟨id2, q2, B2, k1, k2, k3, k4⟩ := hcd
            have := hw.inj id2 id q2 p k1 d1 k3
            subst this
            rw [h1] at k2; cases k2
          · exact d5 j
        rcases h2 with h2 | ⟨es2, h2, h3, h4⟩
        · cases h2
          refine ⟨p, en, cl, by rw [hkeepI hB']; exact d1, d2, d3, d4, hd5, fun i k v hi => ?_⟩
          obtain ⟨e, e1, e2, e3⟩ := d6 i k v hi
          have := hok _ (List.mem_of_getElem? hi)
          exact ⟨e, e1, (e2.mono hI (PlLe.refl _)).keep this.1, (e3.mono hI (PlLe.refl _)).keep this.2⟩
        · cases h2
          refine ⟨p, en, cl, by rw [hkeepI hB']; exact d1, d2, d3, by rw [h3]; exact d4, hd5, fun i k v hi => ?_⟩
          obtain ⟨pp, k1, k2, k3⟩ := h4 i _ hi
          obtain ⟨e, e1, e2, e3⟩ := d6 i pp.1 pp.2 k1
          have := hok _ (List.mem_of_getElem? hi)
          exact ⟨e, e1, (e2.conv hI hS k2).keep this.1, (e3.conv hI hS k3).keep this.2⟩
    · cases h2
  · intro id p hp
    exact lookI_has (hkp hp).2
  · intro i j p q hp hq h
    exact hw.inj i j p q (hkp hp).1 (hkp hq).1 h
  · intro b o y hy
    unfold frzI at hy
    split at hy
    · exact hy
    · exact hw.imm b o y hy
  · intro t d x hx
    simp only [mkSt, Option.map_eq_some_iff, Prod.mk.injEq] at hx
    obtain ⟨x0, h1, rfl, rfl⟩ := hx
    obtain ⟨h2, x', h3, h4⟩ := entT_at ht (lookN_some h1)
    refine ⟨fun _ => ?_, fun h => absurd trivial h⟩
    exact (((hs.tm t _ _ h3).1 trivial).conv hI hS h4).keep h2
  · have hev := hs.ev
    refine ⟨hev.imm.trans hI, fun b o h h' => ?_, fun id p hp => ?_, fun id p hp => hev.plN id p (hkp hp).1, hev.frame, hev.size, hev.os, hev.output, hev.tape⟩
    · unfold frzI at h'
      split at h'
      · rename_i hcd
        obtain ⟨id, q, B, k1, k2, rfl, k4⟩ := hcd
        exact hev.plN id q k1
      · exact hev.immN b o h h'
    · obtain ⟨j, hj, rfl⟩ := hs.eb id p hp
      have : hasId (ms.map (·.1)) (.b j) = true := List.all_eq_true.1 hb _ (hasId_mem.1 (bs_has.2 ⟨j, hj, rfl⟩))
      obtain ⟨p', h1, h2⟩ := hev.pl _ p hp
      exact ⟨p', by unfold keepP; rw [if_pos this]; exact h1, h2⟩
end
end Go.Ab

/- Ab, part 23: rules for code; a function's contract out of a walk. -/
set_option autoImplicit false
set_option linter.unusedVariables false
namespace Go.Ab

abbrev Post := Exit → St → Prop
def Rfn (r : Option Nat) (d : Bool) : Prop := r = none ∧ d = false
def Rany (_ : Option Nat) (_ : Bool) : Prop := True
def WP (R : Option Nat → Bool → Prop) (P : Program) (T : Nat → TI) (N nt nb : Nat) (c : Code) (post : Post) (st : St) : Prop :=
  ∀ (e : Entry), e.nt = nt → e.nb = nb → ∀ (I : Imm) (ρ : Pl) (a : Act) (w : World), StRep T N e I ρ st a w → ∀ (rd : Option Nat), R rd e.nd → ∀ n : Nat,
    c.wpIn (wideR rd) n P (fun ex a' w' => ∃ st' I' ρ', post ex st' ∧ StRep T N e I' ρ' st' a' w') a w
def Ent (T : Nat → TI) (N nt nb : Nat) (st st' : St) : Prop := ∀ (e : Entry), e.nt = nt → e.nb = nb → ∀ (I : Imm) (ρ : Pl) (a : Act) (w : World), StRep T N e I ρ st a w → ∃ I' ρ', StRep T N e I' ρ' st' a w
def thenP (next : St → Prop) (post : Post) : Post := fun ex st => match ex with
  | .normal => next st
  | ex => post ex st
def blkP (id : Nat) (post : Post) : Post := fun ex st => match ex with
  | .exit id' => bif Nat.beq id' id then post .normal st else post (.exit id') st
  | ex => post ex st

section
variable {R : Option Nat → Bool → Prop} {P : Program} {T : Nat → TI} {N nt nb : Nat} {post : Post} {st : St}

theorem Ent.refl (st : St) : Ent T N nt nb st st := fun _ _ _ I ρ _ _ h => ⟨I, ρ, h⟩
theorem Ent.trans {st st1 st2 : St} (h : Ent T N nt nb st st1) (k : Ent T N nt nb st1 st2) : Ent T N nt nb st st2 := fun e h1 h2 I ρ a w hs => by
  obtain ⟨I1, ρ1, hs1⟩ := h e h1 h2 I ρ a w hs
  exact k e h1 h2 I1 ρ1 a w hs1
theorem Ent.mk (hT : TOK P T N) (F : List (Id × Nat)) {ts : List (Nat × AV)} {ms : List (Id × Ob)} (hF : entF st F) (ht : entT T st F (ms.map (·.1)) ts) (hm : entM T st F (ms.map (·.1)) ms) (hb : (bs nb).all (hasId (ms.map (·.1))) = true) : Ent T N nt nb st (mkSt ts ms) :=
  fun e h1 h2 I ρ a w hs => ent_mk hT F hF ht hm (by rw [h2]; exact hb) hs
theorem WP.ent {c : Code} {st' : St} (h : Ent T N nt nb st st') (k : WP R P T N nt nb c post st') : WP R P T N nt nb c post st := fun e h1 h2 I ρ a w hs => by
  obtain ⟨I', ρ', hs'⟩ := h e h1 h2 I ρ a w hs
  exact k e h1 h2 I' ρ' a w hs'
theorem WP.mono {c : Code} {post' : Post} (h : WP R P T N nt nb c post st) (k : ∀ ex st, post ex st → post' ex st) : WP R P T N nt nb c post' st := fun e h1 h2 I ρ a w hs rd hr n =>
  wpIn_mono (h e h1 h2 I ρ a w hs rd hr n) (fun ex a w ⟨st', I', ρ', q, r⟩ => ⟨st', I', ρ', k _ _ q, r⟩)

theorem WP.skip (h : post .normal st) : WP R P T N nt nb .skip post st := fun e h1 h2 I ρ a w hs rd hr n => wpIn_skip ⟨st, I, ρ, h, hs⟩
theorem WP.exit {id : Nat} (h : post (.exit id) st) : WP R P T N nt nb (.exit id) post st := fun e h1 h2 I ρ a w hs rd hr n => wpIn_exit ⟨st, I, ρ, h, hs⟩
theorem WP.ret (h : post .ret st) : WP R P T N nt nb .ret post st := fun e h1 h2 I ρ a w hs rd hr n => wpIn_ret ⟨st, I, ρ, h, hs⟩
theorem WP.seq {x y : Code} (h : WP R P T N nt nb x (thenP (WP R P T N nt nb y post) post) st) : WP R P T N nt nb (.seq x y) post st := fun e h1 h2 I ρ a w hs rd hr n => by
  refine wpIn_seq (wpIn_mono (h e h1 h2 I ρ a w hs rd hr n) ?_)
  rintro ex a' w' ⟨st', I', ρ', q, r⟩
  cases ex with
  | normal => exact q e h1 h2 I' ρ' a' w' r rd hr n
  | _ => exact ⟨st', I', ρ', q, r⟩
theorem WP.block {id : Nat} {c : Code} (h : WP R P T N nt nb c (blkP id post) st) : WP R P T N nt nb (.block id c) post st := fun e h1 h2 I ρ a w hs rd hr n => by
  refine wpIn_block (wpIn_mono (h e h1 h2 I ρ a w hs rd hr n) ?_)
  rintro ex a' w' ⟨st', I', ρ', q, r⟩
  cases ex with
  | exit id' =>
    simp only [Exit.inBlock]
    by_cases hi : id' = id
    · subst hi
      rw [if_pos rfl]
      simp only [blkP, Nat.beq_refl, cond_true] at q
      exact ⟨st', I', ρ', q, r⟩
    · rw [if_neg hi]
      simp only [blkP, nbeq_ne hi, cond_false] at q
      exact ⟨st', I', ρ', q, r⟩
  | _ => exact ⟨st', I', ρ', q, r⟩
theorem WP.cond {c : Operand} {x y : Code} {b : Bool} (hc : ev st c = some (.always, .v (.bool b))) (ht : b = true → WP R P T N nt nb x post st) (hf : b = false → WP R P T N nt nb y post st) : WP R P T N nt nb (.cond c x y) post st := fun e h1 h2 I ρ a w hs rd hr n => by
  obtain ⟨hv, _⟩ := (ev_rep hs hc trivial).v
  refine wpIn_cond_split hv (fun h => ht h e h1 h2 I ρ a w hs rd hr n) (fun h => hf h e h1 h2 I ρ a w hs rd hr n)
theorem WP.region (hT : TOK P T N) (hE : EqOK P T N) {id : Nat} {ops : Array Oper} {s' : RS} (gs : List CG) (h : evL T (AC P T N) nt ops.toList ops.toList ⟨st, gs, none⟩ = some s') (hc : holdsC s'.c) (hp : post .normal s'.st) : WP R P T N nt nb (.region id ops false) post st := fun e h1 h2 I ρ a w hs rd hr n => by
  subst h1
  exact wpIn_region_list ((evL_sound hT hE ops.toList ⟨st, gs, none⟩ s' hs h hc (fun I' ρ' a' w' hs' => ⟨s'.st, I', ρ', hp, hs'⟩) rd n).2)
theorem StRep.drew {e : Entry} {I : Imm} {ρ : Pl} {a : Act} {w : World} (hs : StRep T N e I ρ st a w) {d : Nat} (hd : w.drawn ≤ d) : StRep T N e I ρ st a { w with drawn := d } where
  wr := ⟨hs.wr.cells, hs.wr.maps, hs.wr.dom, hs.wr.inj, hs.wr.imm, hs.wr.gl⟩
  tm := hs.tm
  nt := hs.nt
  df := hs.df
  ev := ⟨hs.ev.imm, hs.ev.immN, hs.ev.pl, hs.ev.plN, hs.ev.frame, hs.ev.size, hs.ev.os, hs.ev.output, hs.ev.tape.1, Nat.le_trans hs.ev.tape.2 hd⟩
  eb := hs.eb
theorem WP.draws (hT : TOK P T N) (hE : EqOK P T N) (hmix : P.follows .mixedOrders = true) {id : Nat} {ops : Array Oper} {s' : RS} (gs : List CG) (h : evA T (AC P T N) nt ops.toList ⟨st, gs, none⟩ = some s') (hc : holdsC s'.c) (hp : post .normal s'.st) : WP R P T N nt nb (.region id ops true) post st := fun e h1 h2 I ρ a w hs rd hr n => by
  subst h1
  exact wpIn_region_any hmix (evA_sound hT hE h hc (fun I' ρ' a' w' hs' => ⟨s'.st, I', ρ', hp, hs'⟩) (hs.drew (Nat.le_succ _)) rd n)

theorem WP.loop {c : Code} {α : Type} (S : α → St) (Inv : α → Prop) (μ : α → Nat) (h0 : ∃ x, Inv x ∧ Ent T N nt nb st (S x))
    (round : ∀ x, Inv x → WP R P T N nt nb c (thenP (fun st' => ∃ y, Inv y ∧ Ent T N nt nb st' (S y) ∧ μ y < μ x) post) (S x)) : WP R P T N nt nb (.loop c) post st := fun e h1 h2 I ρ a w hs rd hr n => by
  intro b k cs hro hb hroom
  have key : ∀ j x a w, μ x = j → Inv x → (∃ I ρ, StRep T N e I ρ (S x) a w) →
      ∃ ex a' w', (∃ st' I' ρ', post ex st' ∧ StRep T N e I' ρ' st' a' w') ∧ ArrivesIn (Machine.fenced P (wideR rd)) P (lone (b.atR a (.code c :: .inLoop c :: k)) cs w) b k cs ex a' w' := by
    intro j
    induction j using Nat.strongRecOn with
    | _ j ih =>
      rintro x a w hn hI ⟨I, ρ, hs⟩
      obtain ⟨ex, a₁, w₁, ⟨st', I', ρ', q, hs'⟩, harr⟩ := round x hI e h1 h2 I ρ a w hs rd hr n b (.inLoop c :: k) cs hro hb hroom
      cases ex with
      | normal =>
        obtain ⟨y, hy, hent, hlt⟩ := q
        obtain ⟨I2, ρ2, hs2⟩ := hent e h1 h2 I' ρ' a₁ w₁ hs'
        obtain ⟨e₂, a₂, w₂, hq₂, harr₂⟩ := ih (μ y) (hn ▸ hlt) y a₁ w₁ rfl hy ⟨I2, ρ2, hs2⟩
        exact ⟨e₂, a₂, w₂, hq₂, .of_steps (StepsIn.trans harr (.one (fenced_calm (fr := b.atR a₁ (.inLoop c :: k)) hb hroom rfl) stepR_inLoop)) harr₂⟩
      | exit id => exact ⟨_, a₁, w₁, ⟨st', I', ρ', q, hs'⟩, .pass (x := .inLoop c) rfl (fun _ _ => .inl (by simp)) harr⟩
      | goto l => exact ⟨_, a₁, w₁, ⟨st', I', ρ', q, hs'⟩, .pass (x := .inLoop c) rfl (fun _ _ => .inl (by simp)) harr⟩
      | ret => exact ⟨_, a₁, w₁, ⟨st', I', ρ', q, hs'⟩, .pass (x := .inLoop c) rfl (fun _ _ => .inl (by simp)) harr⟩
      | panic ch => exact ⟨_, a₁, w₁, ⟨st', I', ρ', q, hs'⟩, .pass (x := .inLoop c) rfl (fun _ _ => .inl (by simp)) harr⟩
      | outgrown => exact ⟨_, a₁, w₁, ⟨st', I', ρ', q, hs'⟩, .pass (x := .inLoop c) rfl (fun _ _ => .inl (by simp)) harr⟩
  obtain ⟨x0, hi0, hent0⟩ := h0
  obtain ⟨I', ρ', hs'⟩ := hent0 e h1 h2 I ρ a w hs
  obtain ⟨e2, a', w', hq, harr⟩ := key _ x0 a w rfl hi0 ⟨I', ρ', hs'⟩
  exact ⟨e2, a', w', hq, .of_steps (.one (fenced_calm (fr := b.atR a (.code (.loop c) :: k)) hb hroom rfl) stepR_loop) harr⟩

/-! ### results -/
def notTup : AV → Bool
  | .tup _ => false
  | _ => true
def resL (T : Nat → TI) (st : St) : List ResultVar → Option (List AV × Option Prop)
  | [] => some ([], none)
  | .tmp t :: r => match st.t t with
    | some (.always, x) => (resL T st r).bind fun l => bif notTup x then some (x :: l.1, l.2) else none
    | _ => none
  | .cell a t :: r => match st.t a with
    | some (.always, x) => (ldA T st.m t x).bind fun v => (resL T st r).bind fun l => bif notTup v.1 then some (v.1 :: l.1, andC (nOf st.m x) l.2) else none
    | _ => none
def resV : List AV → AV
  | [x] => x
  | l => .tup l
def mkB : Nat → List Ob → List (Id × Ob)
  | _, [] => []
  | k, o :: r => (.b k, o) :: mkB (k + 1) r
theorem mkB_look : ∀ (B : List Ob) (k j : Nat), lookI (.b j) (mkB k B) = if k ≤ j then B[j - k]? else none
  | [], k, j => by simp [mkB, lookI]
  | o :: r, k, j => by
    simp only [mkB, lookI]
    by_cases h : j = k
    · subst h; simp [idbeq_self]
    · rw [idbeq_ne (by simpa using h), cond_false, mkB_look r (k + 1) j]
      by_cases h2 : k ≤ j
      · rw [if_pos (by omega), if_pos h2, show j - k = (j - (k + 1)) + 1 by omega, List.getElem?_cons_succ]
      · rw [if_neg (by omega), if_neg h2]
theorem mkB_none : ∀ (B : List Ob) (k a b : Nat), lookI (.s a b) (mkB k B) = none
  | [], _, _, _ => rfl
  | o :: r, k, a, b => by
    simp only [mkB, lookI]
    rw [idbeq_ne (by simp), cond_false, mkB_none r]
theorem mkB_ofB (B : List Ob) : (fun id => lookI id (mkB 0 B)) = ofB B := by
  funext id
  cases id with
  | b j => rw [mkB_look]; simp [ofB]
  | s a b => rw [mkB_none]; rfl

def rvS (a : Act) : ResultVar → Sem Value
  | .tmp t => pure (a.tmps.getD t undef)
  | .cell b t => do loadVar t (← asAddr (a.tmps.getD b undef))
theorem run_resL (hT : TOK P T N) {e : Entry} {I : Imm} {ρ : Pl} {a : Act} {w : World} (hs : StRep T N e I ρ st a w) : ∀ (rs : List ResultVar) (l : List AV × Option Prop), resL T st rs = some l → holdsC l.2 →
    ∃ vs : List Value, (rs.mapM (rvS a)).run P w = .ok vs w ∧ vs.length = l.1.length ∧ ∀ (i : Nat) (x : AV) (v : Value), l.1[i]? = some x → vs[i]? = some v → notTup x = true ∧ Rep1 T N I ρ x v
  | [], l, h, _ => by cases h; exact ⟨[], by simp, rfl, fun i x v hi => by simp at hi⟩
  | .tmp t :: r, l, h, hc => by
    simp only [resL] at h
    split at h
    · rename_i x hx
      simp only [Option.bind_eq_some_iff] at h
      obtain ⟨l', h1, h2⟩ := h
      obtain ⟨hb, h2⟩ := cond_some h2
      cases h2
      obtain ⟨vs, g1, g2, g3⟩ := run_resL hT hs r l' h1 hc
      refine ⟨a.tmps.getD t undef :: vs, ?_, by simp [g2], fun i y v hi hv => ?_⟩
      · rw [List.mapM_cons, Sem.run_bind, rvS, Sem.run_pure, Result.andThen_ok, Sem.run_bind, g1, Result.andThen_ok, Sem.run_pure]
      · cases i with
        | zero =>
          simp at hi
          subst hi
          have hv' : v = a.tmps.getD t undef := by simpa using hv.symm
          subst hv'
          exact ⟨hb, ((hs.tm t _ _ hx).1 trivial).rep1 (by rintro vs rfl; cases hb)⟩
        | succ i => exact g3 i y v (by simpa using hi) (by simpa using hv)
    · cases h
  | .cell b t :: r, l, h, hc => by
    simp only [resL] at h
    split at h
    · rename_i x hx
      simp only [Option.bind_eq_some_iff] at h
      obtain ⟨v, h0, l', h1, h2⟩ := h
      obtain ⟨hb, h2⟩ := cond_some h2
      cases h2
      rw [holdsC_andC] at hc
      obtain ⟨vs, g1, g2, g3⟩ := run_resL hT hs r l' h1 hc.2
      have hr := ((hs.tm b _ _ hx).1 trivial).rep1 (ldA_not_tup h0)
      obtain ⟨u, k1, k2⟩ := ldA_sound (v := v.1) (f := v.2) hT hs.wr hr h0 hc.1
      have haddr : ∃ ad, a.tmps.getD b undef = .pointer (some ad) := by
        generalize a.tmps.getD b undef = y at k1
        cases y with
        | pointer p =>
          cases p with
          | some ad => exact ⟨ad, rfl⟩
          | none => simp [Instr.loadAt, Instr.sureAddr, stuck] at k1
        | _ => simp [Instr.loadAt, Instr.sureAddr, stuck] at k1
      obtain ⟨ad, had⟩ := haddr
      rw [had] at k1
      simp only [Instr.loadAt, Instr.sureAddr, Sem.run_bind, Sem.run_pure, Result.andThen_ok] at k1
      refine ⟨u :: vs, ?_, by simp [g2], fun i y v' hi hv => ?_⟩
      · rw [List.mapM_cons, Sem.run_bind, rvS, had, Sem.run_bind, asAddr, Sem.run_pure, Result.andThen_ok, k1, Result.andThen_ok, Sem.run_bind, g1, Result.andThen_ok, Sem.run_pure]
      · cases i with
        | zero =>
          simp at hi hv
          subst hi hv
          exact ⟨hb, k2.rep1 (fun vs e => by rw [e] at hb; cases hb)⟩
        | succ i => exact g3 i y v' (by simpa using hi) (by simpa using hv)
    · cases h

theorem results_eq (fn : Func) (a : Act) : results fn a.tmps = (do let vs ← fn.results.mapM (rvS a); pure (if h : vs.size = 1 then vs[0] else .tuple vs)) := by
  unfold results
  congr 1
theorem run_results (hT : TOK P T N) {e : Entry} {I : Imm} {ρ : Pl} {a : Act} {w : World} (hs : StRep T N e I ρ st a w) {fn : Func} {l : List AV × Option Prop} (h : resL T st fn.results.toList = some l) (hc : holdsC l.2) :
    ∃ v, (results fn a.tmps).run P w = .ok v w ∧ RepV T N I ρ (resV l.1) v := by
  obtain ⟨vs, h1, h2, h3⟩ := run_resL hT hs _ l h hc
  have hm : (fn.results.mapM (rvS a)).run P w = .ok vs.toArray w := by
    rw [← Array.toArray_toList (xs := fn.results), List.mapM_toArray] 
    rw [Sem.run_map, h1]
    rfl
  rw [results_eq]
  simp only [Sem.run_bind, hm, Result.andThen_ok, Sem.run_pure]
  refine ⟨_, rfl, ?_⟩
  match hl : l.1, vs, h2, h3 with
  | [], [], _, _ => exact .tup _ rfl (fun i c hi => by simp at hi)
  | [x], [v], _, h3 => exact .one (h3 0 x v rfl rfl).2
  | x :: y :: r, v :: u :: vs, h2, h3 =>
    have hsz : ¬ ((v :: u :: vs).toArray.size = 1) := by simp
    rw [dif_neg hsz]
    refine .tup _ (by simpa using h2) (fun i c hi => ?_)
    have hi' : i < (v :: u :: vs).length := by rw [h2]; exact (List.getElem?_eq_some_iff.1 hi).1
    have := (h3 i c _ hi (List.getElem?_eq_getElem hi')).2
    have e : (v :: u :: vs).toArray.getD i undef = (v :: u :: vs)[i] := by
      simp only [Array.getD_eq_getD_getElem?, List.getElem?_toArray, List.getElem?_eq_getElem hi', Option.getD_some]
    rw [e]; exact this
  | [], v :: vs, h2, _ => simp at h2
  | x :: r, [], h2, _ => simp at h2
  | [x], v :: u :: vs, h2, _ => simp at h2
  | x :: y :: r, [v], h2, _ => simp at h2

def Fin (T : Nat → TI) (N nt nb : Nat) (rs : List ResultVar) (r : AV) (B' : List Ob) (st : St) : Prop :=
  ∃ ts, Ent T N nt nb st (mkSt ts (mkB 0 B')) ∧ ∃ l, resL T (mkSt ts (mkB 0 B')) rs = some l ∧ holdsC l.2 ∧ r = resV l.1
def finP (T : Nat → TI) (N nt nb : Nat) (rs : List ResultVar) (r : AV) (B' : List Ob) : Post := fun ex st => match ex with
  | .normal | .ret => Fin T N nt nb rs r B' st
  | _ => False
def startSt (args : List AV) (B : List Ob) : St := ⟨fun k => (args[k]?).map fun x => (.always, x), ofB B⟩

theorem StRep.shut {st : St} {e : Entry} {I : Imm} {ρ : Pl} {a : Act} {w : World} {D : Nat} {Ds : List Nat} (hs : StRep T N e I ρ st a w) (ha : a.defers = (D :: Ds).map markOf) :
    w.heap[D]? = some (.deferred (some [])) ∧ StRep T N e I ρ st { a with defers := Ds.map markOf } (w.putObj D (.deferred none)) := by
  obtain ⟨Ds', h1, h2, h3⟩ := hs.df.1
  have hinj : Ds' = D :: Ds := by
    rw [ha] at h2
    exact ((List.map_inj_right (fun a b hab => by simpa [markOf] using hab)).1 h2).symm
  subst hinj
  obtain ⟨hD, h3D⟩ := List.nodup_cons.1 h1
  obtain ⟨k1, k2, k3⟩ := h3 D (by simp)
  have hoth : ∀ b, b ≠ D → (w.putObj D (.deferred none)).heap[b]? = w.heap[b]? := fun b hb => World.putObj_heap_other hb
  have hcell : ∀ (b o : Nat) (y : Value), w.cell? ⟨b, o, none⟩ = some y → (w.putObj D (.deferred none)).cell? ⟨b, o, none⟩ = some y := fun b o y h => by
    have hb : b ≠ D := by rintro rfl; simp [World.cell?, k1] at h
    simp only [World.cell?, hoth b hb]
    exact h
  refine ⟨k1, ⟨⟨?_, ?_, hs.wr.dom, hs.wr.inj, fun b o y h => hcell b o y (hs.wr.imm b o y h), hs.wr.gl⟩, hs.tm, hs.nt, ?_, ?_, hs.eb⟩⟩
  · intro id B hB
    rcases hs.wr.cells id B hB with h | ⟨p, cs, d1, d2, d3, d4, d5, d⟩
    · exact .inl h
    · exact .inr ⟨p, cs, d1, d2, d3, d4, by rw [hoth _ (k3 id p d1)]; exact d5, d⟩
  · intro id es hB
    obtain ⟨p, en, cl, d1, d2, d3, d⟩ := hs.wr.maps id es hB
    exact ⟨p, en, cl, d1, d2, by rw [hoth _ (k3 id p d1)]; exact d3, d⟩
  · refine ⟨⟨Ds, h3D, rfl, fun D' hD' => ?_⟩, fun h => by have := hs.df.2 h; rw [ha] at this; cases this⟩
    obtain ⟨j1, j2, j3⟩ := h3 D' (by simp [hD'])
    have hne : D' ≠ D := by rintro rfl; exact hD hD'
    exact ⟨by rw [hoth _ hne]; exact j1, j2, j3⟩
  · refine ⟨hs.ev.imm, hs.ev.immN, hs.ev.pl, hs.ev.plN, fun b hb hne => ?_, by simpa using hs.ev.size, hs.ev.os, hs.ev.output, hs.ev.tape⟩
    rw [hoth b (by omega)]
    exact hs.ev.frame b hb hne
theorem leaves_marks {st : St} {e : Entry} {I : Imm} {ρ : Pl} {fn : Func} {R : Ending → World → Prop} {a : Act} {w : World} (hs : StRep T N e I ρ st a w)
    (hR : ∀ (a' : Act) (w' : World), a'.tmps = a.tmps → StRep T N e I ρ st a' w' → ∃ v, (results fn a.tmps).run P w' = .ok v w' ∧ R (.returned v) w') : LeavesInM Fence.wide 0 P fn a.tmps R a.defers .returning w := by
  obtain ⟨Ds, h1, h2, h3⟩ := hs.df.1
  clear h1 h3
  have main : ∀ (Ds : List Nat) (a1 : Act) (w1 : World), a1.tmps = a.tmps → a1.defers = Ds.map markOf → StRep T N e I ρ st a1 w1 → LeavesInM Fence.wide 0 P fn a.tmps R a1.defers .returning w1 := by
    intro Ds
    induction Ds with
    | nil =>
      intro a1 w1 e1 e2 hs1
      rw [e2]
      exact hR a1 w1 e1 hs1
    | cons D Ds ih =>
      intro a1 w1 e1 e2 hs1
      obtain ⟨k1, k2⟩ := hs1.shut e2
      rw [e2]
      refine ⟨by simp, .inl ⟨D, _, rfl, run_takeDeferred k1, ?_⟩⟩
      exact ih { a1 with defers := Ds.map markOf } _ e1 rfl k2
  exact main Ds a w rfl h2 hs
theorem AC_intro (hT : TOK P T N) {f : FuncId} {fn : Func} {c : Code} {args : List AV} {B : List Ob} {r : AV} {B' : List Ob} (hf : P.funcs[f]? = some fn) (hn : (fn.name == "runtime.NumGoroutine") = false) (hb : fn.body = some c) (hnt : args.length ≤ fn.ntmps)
    (h : WP Rfn P T N fn.ntmps B.length c (finP T N fn.ntmps B.length fn.results.toList r B') (startSt args B)) : AC P T N f args B r B' := by
  refine ⟨⟨fn, hf, hn, by rw [hb]; rfl⟩, fun I ρ w vs hl hvs hw => ?_⟩
  have heb : ∀ id p, ρ id = some p → ∃ j, j < B.length ∧ id = .b j := by
    intro id p hp
    have := hw.dom id p hp
    cases id with
    | s a b => exact absurd rfl this
    | b j =>
      refine ⟨j, ?_, rfl⟩
      cases hj : B[j]? with
      | none => simp [ofB, hj] at this
      | some o => exact (List.getElem?_eq_some_iff.1 hj).1
  have hsz : vs.toArray.size ≤ fn.ntmps := by simpa [hl] using hnt
  have hstart : StRep T N ⟨I, ρ, w, fn.ntmps, B.length, false⟩ I ρ (startSt args B) { tmps := vs.toArray ++ Array.replicate (fn.ntmps - vs.toArray.size) undef, defers := [] } w := by
    refine ⟨hw, fun t d x ht => ?_, by simp [hl]; omega, ⟨Marks.nil, fun _ => rfl⟩, Ev.refl _ _ _, heb⟩
    simp only [startSt, Option.map_eq_some_iff, Prod.mk.injEq] at ht
    obtain ⟨x0, h1, rfl, rfl⟩ := ht
    have ht' : t < vs.length := by rw [hl]; exact (List.getElem?_eq_some_iff.1 h1).1
    refine ⟨fun _ => ?_, fun h => absurd trivial h⟩
    have hget : (vs.toArray ++ Array.replicate (fn.ntmps - vs.toArray.size) undef).getD t undef = vs[t] := by
      simp [Array.getElem?_append, ht']
    simp only [hget]
    exact hvs t x0 _ h1 (List.getElem?_eq_getElem ht')
  refine (callsIn_wide (n := 0)).1 (callsIn_of_wp_marks hf hb trivial ?_)
  refine wpIn_mono (h ⟨I, ρ, w, fn.ntmps, B.length, false⟩ rfl rfl I ρ _ w hstart none ⟨rfl, rfl⟩ 0) ?_
  rintro ex a' w' ⟨st', I', ρ', q, hs'⟩
  have key : Fin T N fn.ntmps B.length fn.results.toList r B' st' → LeavesInM Fence.wide 0 P fn a'.tmps (fun e w' => ∃ v I' ρ', e = .returned v ∧ Ev I ρ w I' ρ' w' ∧ RepV T N I' ρ' r v ∧ WRep T N I' ρ' (ofB B') w') a'.defers .returning w' := by
    rintro ⟨ts, hent, l, h1, h2, rfl⟩
    obtain ⟨I2, ρ2, hs2⟩ := hent _ rfl rfl I' ρ' a' w' hs'
    refine leaves_marks hs2 (fun a3 w3 e3 hs3 => ?_)
    obtain ⟨v, g1, g2⟩ := run_results hT hs3 h1 h2
    rw [e3] at g1
    refine ⟨v, g1, v, I2, ρ2, rfl, hs3.ev, g2, ?_⟩
    have := hs3.wr
    rw [show (mkSt ts (mkB 0 B')).m = ofB B' from mkB_ofB B'] at this
    exact this
  cases ex with
  | normal => exact key q
  | ret => exact key q
  | _ => exact q.elim
end
end Go.Ab
