/- Part 13 of a proof of a statement about the given program: an abstract machine over the model, proved sound, and contracts of the functions that the statement reaches; the last part proves the statement, for every input, with no condition. -/
import Derived.Test.YtcfelhfcjdofoaaGreatDoorX11
import Derived.MapKept
import Derived.Laws.StructEq
import Derived.TacticsIn
import Derived.OrdersIn
import Derived.Orders
import Derived.RangeFuncLeaves
import Derived.RangeFuncFrom
import Derived.ChangeKeysEq
set_option autoImplicit false
set_option linter.unusedSimpArgs false
set_option linter.unusedVariables false
namespace Go.Ab
def ofB (B:List Ob):Id→Option Ob
 | .b j=>B[j]?
 | .s _ _=>none
def callable (P:Program) (f:FuncId):Prop := ∃ fn,P.funcs[f]? = some fn∧(fn.name == "runtime.NumGoroutine")=false∧fn.body.isSome=true
section
variable (P:Program) (T:Nat→TI) (N:Nat)
def AC (f:FuncId) (args:List AV) (B:List Ob) (r:AV) (B':List Ob):Prop :=
 callable P f ∧ ∀ (I:Imm) (ρ:Pl) (w:World) (vs:List Value),vs.length=args.length→(∀ (i:Nat) (a:AV) (v:Value),args[i]? = some a→vs[i]? = some v→gI T N I ρ a v)→dR T N I ρ (ofB B) w →
  Calls P f vs.toArray w fun e w' => ∃ v I' ρ',e = .returned v∧Ev I ρ w I' ρ' w'∧gI T N I' ρ' r v∧dR T N I' ρ' (ofB B') w'
end
section
variable {P:Program} {T:Nat→TI} {N:Nat}
def sK (w:World):Imm:=fun b o=>w.cell? ⟨b,o,none⟩
theorem dI.scalar {I:Imm} {ρ:Pl} {x:Value} {y:Value} (h:dI T N I ρ (.v x) y) (I':Imm) (ρ':Pl):dI T N I' ρ' (.v x) y:=by
 obtain ⟨rfl,hp⟩:=h.v;exact wQ hp
theorem gI.scalar {I:Imm} {ρ:Pl} {x:AV} {y:Value} (h:gI T N I ρ x y) (hx:xX x=true) (I':Imm) (ρ':Pl):gI T N I' ρ' x y:=by
 cases h with
 | one h =>
  cases x <;> first | cases hx | skip
  ·exact .one (h.scalar I' ρ')
  ·obtain ⟨cs,g,_⟩:=h;exact absurd g qX
 | tup ys hl h =>
  refine .tup ys hl (fun i c hi=>?_);simp only [xX,List.all_eq_true]at hx;have hc:=hx c (List.mem_of_getElem? hi)
  split at hc
  ·exact (h i _ hi).scalar I' ρ'
  ·cases hc
theorem dI.dw {I:Imm} {ρ:Pl} {x:AV} {y:Value} (h:dI T N I ρ x y) (hx:Ab.dw x=true) (ρ':Pl):dI T N I ρ' x y:=by
 obtain ⟨cs,h1,h2⟩:=h;exact ⟨cs,h1.dw hx ρ',h2⟩
theorem gI.dw {I:Imm} {ρ:Pl} {x:AV} {y:Value} (h:gI T N I ρ x y) (hx:En x=true) (ρ':Pl):gI T N I ρ' x y:=by
 cases h with
 | one h =>
  refine .one (h.dw ?_ ρ');cases x <;> first | exact hx | (obtain ⟨cs,g,_⟩:=h;exact absurd g qX)
 | tup ys hl h =>
  simp only [En,List.all_eq_true]at hx;exact .tup ys hl (fun i c hi=>(h i c hi).dw (hx c (List.mem_of_getElem? hi)) ρ')
theorem dR.ty_lt {I:Imm} {ρ:Pl} {m:Id→Option Ob} {w:World} (hw:dR T N I ρ m w) {id:Id} {B:Blk} (hm:m id=some (.cells B)):B.ty<N:=by
 rcases hw.cells id B hm with ⟨_,_,_,h⟩ | ⟨p,cs,_,_,_,h,_⟩
 ·exact h
 ·exact h
theorem kT {α:Type} {i n:Nat} (h:i<n) (a b:α):(bif Nat.blt i n then a else b)=a:=by
 have:Nat.blt i n=true:=by rw [Nat.blt_eq];exact h
 rw [this,cond_true]
theorem Rep.sQ (hT:TOK P T N) {I:Imm} {ρ0:Pl} {m:Id→Option Ob} {w:World} (hw:dR T N I ρ0 m w) {ρ:Pl} {x:AV} {cs:List Value} (h:Rep T N I ρ x cs):(∀ id p,ρ id=some p→ρ0 id=some p)→dok m x→Rep T N (sK w) iI (Ab.sQ m x) cs ∧ ∀ t,fit T t (Ab.sQ m x)=fit T t x:=by
 have hI:iQ I (sK w):=fun b o z hz=>hw.imm b o z hz
 induction h with
 | v h=>intro _ _;exact ⟨.v h,fun t=>rfl⟩
 | struct fs segs hk hn ht h hf hl ih =>
  intro hρ hd;have hd':∀ i,i<_→dok m _:=hd
  have hlt:∀ i u,fs[i]? = some u→i<_:=fun i u hu=>hn▸(List.getElem?_eq_some_iff.1 hu).1;exact ⟨.struct fs segs hk hn ht (fun i u hu=>by rw [kT (hlt i u hu)];exact (ih i u hu hρ (hd' i (hlt i u hu))).1) (fun i u hu=>by rw [kT (hlt i u hu),(ih i u hu hρ (hd' i (hlt i u hu))).2];exact hf i u hu) hl,fun t=>rfl⟩
 | array e segs hk ht h hf hl ih =>
  intro hρ hd;have hd':∀ i,i<_→dok m _:=hd
  exact ⟨.array e segs hk ht (fun i hi=>by rw [kT hi];exact (ih i hi hρ (hd' i hi)).1) (fun i hi=>by rw [kT hi,(ih i hi hρ (hd' i hi)).2];exact hf i hi) hl,fun t=>rfl⟩
 | row b off cap segs he hc hm hfull h hf hl hi _ =>
  intro _ _;exact ⟨(Rep.row (ρ:=iI) b off cap segs he hc hm hfull h hf hl hi).mono hI (iP.refl _),fun t=>rfl⟩
 | row0 he=>intro _ _;exact ⟨.row0 he,fun t=>rfl⟩
 | rp b off seg ht h hf hl hi _=>intro _ _;exact ⟨(Rep.rp (ρ:=iI) b off seg ht h hf hl hi).mono hI (iP.refl _),fun t=>rfl⟩
 | @own ρ id n i len cap x p hp hn hx1 hx =>
  intro hρ hd;have hp0:=hρ _ _ hp
  simp only [dok]at hd;simp only [Ab.sQ];cases hmi:m id with
  | none=>rw [hmi]at hd;exact hd.elim
  | some o =>
   rw [hmi]at hd;cases o with
   | map es=>exact hd.elim
   | cells B =>
    simp only at hd ⊢;obtain ⟨e1,hno⟩:=hd;refine ⟨?_,fun t=>rfl⟩;obtain ⟨q',cs,c1,c2,c3,c4,c5,c6,c7,c8,c9,c10⟩:=hw.cellsAt hmi hp0;rw [hp0]at c1;cases c1;obtain ⟨c,rfl,g1,g2,g3,g4,g5,g6⟩:=hx (by rw [c3,e1]);have hex:∀ k,∃ seg,k<len→Rep T N I ρ0 (B.get (k+i)) seg∧fit T B.ty (B.get (k+i))=true∧seg.length=(T B.ty).size ∧ ∀ o,o<(T B.ty).size→cs[(k+i)*(T B.ty).size+o]? = seg[o]? := by
     intro k;by_cases hk:k<len
     ·obtain ⟨seg,hs⟩:=c8 (k+i) (by omega);exact ⟨seg,fun _=>hs⟩
     ·exact ⟨[],fun h=>absurd h hk⟩
    have hseg:=fun k=>Classical.choose_spec (hex k);refine .row p.b (i*(T p.ty).size) c (fun k=>Classical.choose (hex k)) c4 g1 g2 (fun h=>by cases h) (fun k hk=>(((hseg k hk).1.dw (hno k hk) iI).mono hI (iP.refl _))) (fun k hk=>(hseg k hk).2.1) (fun k hk=>(hseg k hk).2.2.1) (fun k hk o ho=>?_);have h1:=(hseg k hk).2.2.2 o ho
    simp only [sK,World.cell?,c5];simp only [Option.isSome_none,Bool.false_eq_true,if_false];rw [← h1,c2];congr 1;rw [Nat.add_mul];omega
 | @own0 ρ id cap =>
  intro _ hd;simp only [dok]at hd;simp only [Ab.sQ];cases hmi:m id with
  | none=>rw [hmi]at hd;exact hd.elim
  | some o =>
   rw [hmi]at hd;cases o with
   | map es=>exact hd.elim
   | cells B=>exact ⟨.row0 (hw.ty_lt hmi),fun t=>rfl⟩
 | arr=>intro _ hd;cases hd
 | ptr=>intro _ hd;cases hd
 | @clo ρ f caps ys hl h ih =>
  intro _ hd;exact ⟨((Rep.clo (I:=I) (T:=T) (N:=N) (ρ:=ρ) ys hl h).dw hd iI).mono hI (iP.refl _),fun t=>rfl⟩
 | mp=>intro _ hd;cases hd
theorem Gi (hT:TOK P T N) {I:Imm} {ρ:Pl} {m:Id→Option Ob} {w:World} (hw:dR T N I ρ m w) {x:AV} {y:Value} {r:AV×Option Prop×Bool×List Id} (hx:gI T N I ρ x y) (h:PK T m x=some r) (hc:aj r.2.1) :
 gI T N (sK w) iI r.1 y∧(r.2.2.1=false→gI T N I iI r.1 y):=by
 have hI:iQ I (sK w):=fun b o z hz=>hw.imm b o z hz;unfold PK at h;split at h
 ·rename_i id n i len cap;split at h
  ·rename_i B hm;rw [show (fun j=>B.get (j+i))=fun j=>B.get (i+j)from funext fun j=>by rw [Nat.add_comm]]at h
   cases h;simp only [aj]at hc;obtain ⟨e1,hc⟩:=hc;have hc:=fun j hj=>(show dw (B.get (i+j))=true from Nat.add_comm j i▸hc j hj)
   rcases Rep.own_inv (hx.rep1 (fun _=>by simp))with ⟨rfl,rfl,rfl,rfl⟩ | ⟨q,hq,hn,hx⟩
   ·exact ⟨.one ⟨[_],.row0 (hw.ty_lt hm),rfl⟩,fun h=>by cases h⟩
   obtain ⟨q',cs,c1,c2,c3,c4,c5,c6,c7,c8,c9,c10⟩:=hw.cellsAt hm hq;rw [hq]at c1;cases c1;obtain ⟨c,rfl,g1,g2,g3,g4,g5,g6⟩:=hx (by rw [c3,e1]);refine ⟨.one ⟨[_],?_,rfl⟩,fun h=>by cases h⟩;have hex:∀ k,∃ seg,k<len→Rep T N I ρ (B.get (i+k)) seg∧fit T B.ty (B.get (i+k))=true∧seg.length=(T B.ty).size ∧ ∀ o,o<(T B.ty).size→cs[(i+k)*(T B.ty).size+o]? = seg[o]? := by
    intro k;by_cases hk:k<len
    ·obtain ⟨seg,hs⟩:=c8 (i+k) (by omega);exact ⟨seg,fun _=>hs⟩
    ·exact ⟨[],fun h=>absurd h hk⟩
   have hseg:=fun k=>Classical.choose_spec (hex k);refine .row q.b (i*(T q.ty).size) c (fun k=>Classical.choose (hex k)) c4 g1 g2 (fun h=>by cases h) (fun k hk=>(((hseg k hk).1.dw (hc k hk) iI).mono hI (iP.refl _))) (fun k hk=>(hseg k hk).2.1) (fun k hk=>(hseg k hk).2.2.1) (fun k hk o ho=>?_);have h1:=(hseg k hk).2.2.2 o ho
   simp only [sK,World.cell?,c5];simp only [Option.isSome_none,Bool.false_eq_true,if_false];rw [← h1,c2];congr 1;rw [Nat.add_mul];omega
  ·cases h
 ·rename_i id n i p lo len hi;split at h
  ·rename_i B hm;simp only [Option.bind_eq_some_iff,Option.some.injEq]at h;obtain ⟨e,he,rfl⟩:=h;simp only [aj]at hc;obtain ⟨e1,hc⟩:=hc;obtain ⟨q,hq,hn,hx⟩:=Rep.arr_inv (hx.rep1 (fun _=>by simp))
   obtain ⟨q',cs,c1,c2,c3,c4,c5,c6,c7,c8,c9,c10⟩:=hw.cellsAt hm hq;rw [hq]at c1;cases c1;obtain ⟨hi',ta,ka,ea,g1,g2,g3,g4,g5,g6,rfl⟩:=hx (by rw [c3,e1]);rw [← c2,gZ p g1]at he;have hea:ea=e:=by simpa [aJ,g3]using he
   subst hea;refine ⟨.one ⟨[_],?_,rfl⟩,fun h=>by cases h⟩;have hex:∀ k,∃ seg,k<len→Rep T N I ρ (((B.get i).at p).at [lo+k]) seg∧fit T ea (((B.get i).at p).at [lo+k])=true∧seg.length=(T ea).size ∧
    ∀ o,o<(T ea).size→w.cell? ⟨q.b,i*(T q.ty).size+aF T q.ty p+lo*(T ea).size+(k*(T ea).size+o),none⟩=seg[o]? := by
    intro k;by_cases hk:k<len
    ·obtain ⟨seg,s1,s2,s3,s4⟩:=ptr_cells hw hm hq (i:=i) (p:=p++[lo+k]) (t:=ea) (by rw [e1];exact hi') (by rw [← c2,gZ p g1];simp [aJ,g3]) (by rw [← c2];exact iU p g1 g2 (by simp [pathIn,g3];omega));rw [yX]at s1 s2;refine ⟨seg,fun _=>⟨s1,s2,s3,fun o ho=>?_⟩⟩;rw [← s4 o ho,ig p g1];congr 2;simp only [aF,g3,Nat.add_mul];omega
    ·exact ⟨[],fun h=>absurd h hk⟩
   have hseg:=fun k=>Classical.choose_spec (hex k);refine .row q.b (i*(T q.ty).size+aF T q.ty p+lo*(T ea).size) (hi - lo) (fun k=>Classical.choose (hex k)) (hT.array ta ka ea g3).1 (by omega) (by omega) (fun h=>by cases h) (fun k hk=>(((hseg k hk).1.dw (hc k hk) iI).mono hI (iP.refl _))) (fun k hk=>(hseg k hk).2.1) (fun k hk=>(hseg k hk).2.2.1) (fun k hk o ho=>?_);exact (hseg k hk).2.2.2 o ho
  ·cases h
 ·cases h
 ·rename_i id n i p;split at h
  ·rename_i B hm;simp only [Option.bind_eq_some_iff,Option.some.injEq]at h;obtain ⟨t,ht,rfl⟩:=h;simp only [aj]at hc;obtain ⟨e1,hd⟩:=hc;refine ⟨.one ?_,fun h=>by cases h⟩
   obtain ⟨cs,hr,hy⟩:=hx.rep1 (fun _=>by simp);cases hr with
   | ptr q hq hn hx1 hxp =>
   obtain ⟨q',ds,c1,c2,c3,_⟩:=hw.cellsAt hm hq;rw [hq]at c1;cases c1;obtain ⟨hi,hpi,rfl⟩:=hxp (by rw [c3,e1]);obtain ⟨seg,s1,s2,s3,s4⟩:=ptr_cells hw hm hq (i:=i) (p:=p) (t:=t) (by omega) ht (by rw [← c2];exact hpi);obtain ⟨v1,v2⟩:=s1.sQ hT hw (fun _ _ h=>h) hd;refine ⟨[_],.rp q.b (i*(T q.ty).size+aF T q.ty p) seg (hT.pathLt p (hw.ty_lt hm) ht) v1 (by rw [v2];exact s2) s3 (fun o ho=>?_),hy⟩;exact s4 o ho
  ·cases h
 ·rename_i h1 h2 h3 h4;obtain ⟨hb,h⟩:=ak h;cases h;have hx1:=hx.rep1 (fun vs e=>h3 vs e)
  exact ⟨.one ((hx1.dw hb iI).mono hI (iP.refl _)),fun _ => .one (hx1.dw hb iI)⟩
theorem xk (hT:TOK P T N) {I:Imm} {ρ:Pl} {m:Id→Option Ob} {w:World} (hw:dR T N I ρ m w):∀ (xs:List AV) (ys:List Value) (r:List AV×Option Prop×Bool×List Id),ys.length=xs.length →
 (∀ (i:Nat) (x:AV) (y:Value),xs[i]? = some x→ys[i]? = some y→gI T N I ρ x y)→OO T m xs=some r→aj r.2.1 →
 r.1.length=xs.length∧(∀ (i:Nat) (x:AV) (y:Value),r.1[i]? = some x→ys[i]? = some y→gI T N (sK w) iI x y∧(r.2.2.1=false→gI T N I iI x y))
 | [],ys,r,_,_,h,_=>by cases h;exact ⟨rfl,fun i x y hi=>by simp at hi⟩
 | x::xs,[],r,hl,_,_,_=>by simp at hl
 | x::xs,y::ys,r,hl,hr,h,hc=>by
  simp only [OO,Option.bind_eq_some_iff,Option.some.injEq]at h;obtain ⟨a,h1,l,h2,rfl⟩:=h;rw [aB]at hc;have g1:=Gi hT hw (hr 0 x y rfl rfl) h1 hc.1
  have g2:=xk hT hw xs ys l (by simpa using hl) (fun i x' y' h3 h4=>hr (i+1) x' y' (by simpa using h3) (by simpa using h4)) h2 hc.2;refine ⟨by simp [g2.1],fun i x' y' h3 h4=>?_⟩;cases i with
  | zero =>
   simp at h3 h4;subst h3 h4;exact ⟨g1.1,fun hb=>g1.2 (by simp only [Bool.or_eq_false_iff]at hb;exact hb.1)⟩
  | succ i =>
   simp at h3 h4;have:=g2.2 i x' y' h3 h4
   exact ⟨this.1,fun hb=>this.2 (by simp only [Bool.or_eq_false_iff]at hb;exact hb.2)⟩
theorem mV {I:Imm} {w:World} (h:∀ b o y,I b o=some y→w.cell? ⟨b,o,none⟩=some y) (hg:∀ (b o n:Nat),(T b).glb[o]? = some n→I b o=some (.int .u8 n)):dR T N I iI (ofB []) w where
 cells:=fun id B hm=>by cases id <;> simp [ofB]at hm
 maps:=fun id es hm=>by cases id <;> simp [ofB]at hm
 dom:=fun id p hp=>by simp [iI]at hp
 inj:=fun i j p q hp=>by simp [iI]at hp
 imm:=h
 gl:=hg
theorem dR.untouched {I I':Imm} {ρ:Pl} {m:Id→Option Ob} {w w':World} (hw:dR T N I ρ m w) (hh:∀ b,b<w.heap.size→w'.heap[b]? = w.heap[b]?) (hI:iQ I I') (hN:∀ b o,I b o=none→I' b o≠none→w.heap.size≤b)
 (hi:∀ b o y,I' b o=some y→w'.cell? ⟨b,o,none⟩=some y):dR T N I' ρ m w' where
 cells:=fun id B hm=>by
  rcases hw.cells id B hm with h | ⟨p,ds,d1,d2,d3,d4,d5,d6,d7,d8,d9,d10⟩
  ·exact .inl h
  have hp:=hw.place_lt d1;refine .inr ⟨p,ds,d1,d2,d3,d4,by rw [hh _ hp];exact d5,d6,d7,fun i hi=>?_,fun j hj=>d9 j (fun e=>?_),d10⟩
  ·obtain ⟨seg,e1,e2,e3,e4⟩:=d8 i hi;exact ⟨seg,e1.mono hI (iP.refl _),e2,e3,e4⟩
  ·have:=hN _ _ e hj;omega
 maps:=fun id es hm=>by
  obtain ⟨p,en,cl,d1,d2,d3,d4,d5,d6⟩:=hw.maps id es hm;have hp:=hw.place_lt d1
  refine ⟨p,en,cl,d1,d2,by rw [hh _ hp];exact d3,d4,fun j=>?_,fun i k v hi=>?_⟩
  ·cases hj:I' p.b j with
   | none=>rfl
   | some y=>have:=hN _ _ (d5 j) (by rw [hj];simp);omega
  ·obtain ⟨e,e1,e2,e3⟩:=d6 i k v hi;exact ⟨e,e1,e2.mono hI (iP.refl _),e3.mono hI (iP.refl _)⟩
 dom:=hw.dom
 inj:=hw.inj
 imm:=hi
 gl:=fun b o n h=>hI _ _ _ (hw.gl b o n h)
theorem JF (hT:TOK P T N) {I:Imm} {ρ:Pl} {m:Id→Option Ob} {w:World} (hw:dR T N I ρ m w) {f:FuncId} {args:List AV} {r:AV} {vs:List Value} {fz:Bool} (hac:AC P T N f args [] r []) (hl:vs.length=args.length)
 (hargs:∀ (i:Nat) (x:AV) (y:Value),args[i]? = some x→vs[i]? = some y→gI T N (sK w) iI x y∧(fz=false→gI T N I iI x y)) (hr:En r=true) (hs:fz=true→xX r=true) :
 Calls P f vs.toArray w fun e w' => ∃ v I',e = .returned v∧Ev I ρ w I' ρ w'∧gI T N I' ρ r v∧dR T N I' ρ m w':=by
 cases fz with
 | true =>
  refine (hac.2 (sK w) iI w vs hl (fun i x y h1 h2=>(hargs i x y h1 h2).1) (mV (fun b o y h=>h) (fun b o n h=>hw.imm _ _ _ (hw.gl b o n h)))).mono ?_;rintro e w' ⟨v,I',ρ',rfl,hev,hv,hw'⟩;have hh:∀ b,b<w.heap.size→w'.heap[b]? = w.heap[b]? := fun b hb=>hev.frame b hb (fun id p hp=>by simp [iI]at hp)
  refine ⟨v,I,rfl,⟨iQ.refl _,fun b o h h'=>absurd h h',iP.refl _,fun id p hp => .inl ⟨id,p,hp,rfl⟩,fun b hb _=>hh b hb,hev.size,hev.os,hev.output,hev.tape⟩,hv.scalar (hs rfl) _ _,?_⟩;exact hw.untouched hh (iQ.refl _) (fun b o h h'=>absurd h h') (fun b o y h=>by
   have h0:=hw.imm b o y h;rw [jd (hh b (iE h0))];exact h0)
 | false =>
  refine (hac.2 I iI w vs hl (fun i x y h1 h2=>(hargs i x y h1 h2).2 rfl) (mV hw.imm hw.gl)).mono ?_;rintro e w' ⟨v,I',ρ',rfl,hev,hv,hw'⟩;have hh:∀ b,b<w.heap.size→w'.heap[b]? = w.heap[b]? := fun b hb=>hev.frame b hb (fun id p hp=>by simp [iI]at hp)
  have hN:∀ b o,I b o=none→I' b o≠none→w.heap.size≤b:=fun b o h h'=>by
   rcases hev.immN b o h h' with ⟨id,p,hp,_⟩ | h
   ·simp [iI]at hp
   ·exact h
  refine ⟨v,I',rfl,⟨hev.imm,fun b o h h' => .inr (hN b o h h'),iP.refl _,fun id p hp => .inl ⟨id,p,hp,rfl⟩,fun b hb _=>hh b hb,hev.size,hev.os,hev.output,hev.tape⟩,hv.dw hr _,?_⟩;exact hw.untouched hh hev.imm hN hw'.imm
end
section
variable {P:Program} {T:Nat→TI} {N:Nat}
theorem uy (σ:Id→Id):∀ l,Qe σ l=l.map (ren σ)
 | []=>rfl
 | x::r=>by simp [Qe,uy σ r]
theorem nN (ids:List Id):∀ l,uO ids l=l.all (dM ids)
 | []=>rfl
 | x::r=>by simp [uO,nN ids r]
theorem pJ (σ:Id→Id) (t:Nat) (x:AV):fit T t (ren σ x)=fit T t x:=by cases x <;> simp [ren,fit]
theorem Rep.ren {I:Imm} {ρ:Pl} {x:AV} {cs:List Value} (h:Rep T N I ρ x cs):∀ {ρ':Pl} {ids:List Id} {σ:Id→Id},(∀ id,fV ids id=true→ρ' (σ id)=ρ id)→dM ids x=true→Rep T N I ρ' (Ab.ren σ x) cs:=by
 induction h with
 | v h=>intro _ _ _ _ _;exact .v h
 | struct fs segs hk hn ht h hf hl ih =>
  intro ρ' ids σ hσ hi;simp only [dM,List.all_eq_true,List.mem_range]at hi;simp only [Ab.ren];exact .struct fs segs hk hn ht (fun i u hu=>ih i u hu hσ (hi i (by rw [← hn];exact (List.getElem?_eq_some_iff.1 hu).1))) (fun i u hu=>by rw [pJ];exact hf i u hu) hl
 | array e segs hk ht h hf hl ih =>
  intro ρ' ids σ hσ hi;simp only [dM,List.all_eq_true,List.mem_range]at hi;simp only [Ab.ren];exact .array e segs hk ht (fun i h'=>ih i h' hσ (hi i h')) (fun i h'=>by rw [pJ];exact hf i h') hl
 | row b off cap segs he hc hm hfull h hf hl hI ih=>intro _ _ _ _ _;exact .row b off cap segs he hc hm hfull h hf hl hI
 | row0 he=>intro _ _ _ _ _;exact .row0 he
 | rp b off seg ht h hf hl hI=>intro _ _ _ _ _;exact .rp b off seg ht h hf hl hI
 | own p hp hn hx1 hx=>intro ρ' ids σ hσ hi;exact .own p (by rw [hσ _ hi];exact hp) hn hx1 hx
 | own0=>intro _ _ _ _ _;exact .own0
 | arr p hp hn hx1 hx=>intro ρ' ids σ hσ hi;exact .arr p (by rw [hσ _ hi];exact hp) hn hx1 hx
 | ptr p hp hn hx1 hx=>intro ρ' ids σ hσ hi;exact .ptr p (by rw [hσ _ hi];exact hp) hn hx1 hx
 | @clo _ f caps ys hl h ih =>
  intro ρ' ids σ hσ hi;simp only [dM,nN,List.all_eq_true]at hi;simp only [Ab.ren,uy];refine .clo ys (by simpa using hl) (fun i c hc=>?_);simp only [List.getElem?_map,Option.map_eq_some_iff]at hc;obtain ⟨c',h1,rfl⟩:=hc;exact ih i c' h1 hσ (hi c' (List.mem_of_getElem? h1))
 | mp p hp hx1 hx=>intro ρ' ids σ hσ hi;exact .mp p (by rw [hσ _ hi];exact hp) hx1 hx
theorem zV (σ:Id→Id) (x:AV) (cs:List Value):bZ (ren σ x) cs=bZ x cs:=by cases x <;> simp [ren,bZ]
theorem dI.ren {I:Imm} {ρ:Pl} {x:AV} {y:Value} (h:dI T N I ρ x y) {ρ':Pl} {ids:List Id} {σ:Id→Id} (hσ:∀ id,fV ids id=true→ρ' (σ id)=ρ id) (hi:dM ids x=true):dI T N I ρ' (Ab.ren σ x) y:=by
 obtain ⟨cs,h1,h2⟩:=h;exact ⟨cs,h1.ren hσ hi,by rw [zV];exact h2⟩
theorem gI.ren {I:Imm} {ρ:Pl} {x:AV} {y:Value} (h:gI T N I ρ x y) {ρ':Pl} {ids:List Id} {σ:Id→Id} (hσ:∀ id,fV ids id=true→ρ' (σ id)=ρ id) (hi:dM ids x=true):gI T N I ρ' (Ab.ren σ x) y:=by
 cases h with
 | one h=>exact .one (h.ren hσ hi)
 | @tup vs ys hl h =>
  simp only [dM,nN,List.all_eq_true]at hi;simp only [Ab.ren,uy];refine .tup ys (by simpa using hl) (fun i c hc=>?_);simp only [List.getElem?_map,Option.map_eq_some_iff]at hc;obtain ⟨c',h1,rfl⟩:=hc;exact (h i c' h1).ren hσ (hi c' (List.mem_of_getElem? h1))
def addN (I:Imm) (b:Nat) (cs:List Value) (k:Nat):Imm:=fun c o=>if c=b∧o<k then cs[o]? else I c o
theorem dR.freeze {I:Imm} {ρ:Pl} {m:Id→Option Ob} {w:World} (hw:dR T N I ρ m w) {id:Id} {B:Blk} (hm:m id=some (.cells B)) {q:Place} (hq:ρ id=some q) {cs:Array Value} (hh:w.heap[q.b]? = some (.cells cs B.ty (0,0))) {k:Nat} (hk:k≤B.n) :
 iQ I (addN I q.b cs.toList (k*(T B.ty).size))∧Ev I ρ w (addN I q.b cs.toList (k*(T B.ty).size)) ρ w∧dR T N (addN I q.b cs.toList (k*(T B.ty).size)) ρ (vV m id (.cells { B with fz:=max B.fz k})) w:=by
 obtain ⟨q',cs0,c1,c2,c3,c4,c5,c6,c7,c8,c9,c10⟩:=hw.cellsAt hm hq;rw [hq]at c1;cases c1;rw [hh]at c5;cases c5;have hle:iQ I (addN I q.b cs.toList (k*(T B.ty).size)):=by
  intro b o y h;unfold addN;split
  ·rename_i hb;obtain ⟨rfl,_⟩:=hb;have:=hw.imm _ _ _ h
   simp only [World.cell?,hh]at this;simpa using this
  ·exact h
 have hne:∀ b o,b≠q.b→addN I q.b cs.toList (k*(T B.ty).size) b o=I b o:=fun b o h=>by unfold addN;rw [if_neg (fun e=>h e.1)]
 refine ⟨hle,⟨hle,fun b o h h'=>?_,iP.refl _,fun a p hp => .inl ⟨a,p,hp,rfl⟩,fun _ _ _=>rfl,Nat.le_refl _,rfl,rfl,⟨rfl,Nat.le_refl _⟩⟩,?_,?_,?_,?_,?_,fun b o n h=>hle _ _ _ (hw.gl b o n h)⟩
 ·by_cases hb:b=q.b
  ·exact .inl ⟨id,q,hq,hb.symm⟩
  ·rw [hne b o hb]at h';exact absurd h h'
 ·intro a A hA;by_cases ha:a=id
  ·subst ha;rw [bC]at hA;cases hA;refine .inr ⟨q,cs,hq,c2,c3,c4,hh,c6,c7,fun i hi=>?_,fun j hj=>?_,by simp only;omega⟩
   ·obtain ⟨seg,e1,e2⟩:=c8 i hi;exact ⟨seg,e1.mono hle (iP.refl _),e2⟩
   ·by_cases hjk:j<k*(T B.ty).size
    ·exact Nat.lt_of_lt_of_le hjk (Nat.mul_le_mul_right _ (Nat.le_max_right _ _))
    ·have:addN I q.b cs.toList (k*(T B.ty).size) q.b j=I q.b j:=by unfold addN;rw [if_neg (fun e=>hjk e.2)]
     rw [this]at hj;exact Nat.lt_of_lt_of_le (c9 j hj) (Nat.mul_le_mul_right _ (Nat.le_max_left _ _))
  ·rw [dL _ _ ha]at hA;rcases hw.cells a A hA with h | ⟨p,ds,d1,d2,d3,d4,d5,d6,d7,d8,d9,d10⟩
   ·exact .inl h
   ·have hb:p.b≠q.b:=fun e=>ha (hw.inj a id p q d1 hq e);refine .inr ⟨p,ds,d1,d2,d3,d4,d5,d6,d7,fun i hi=>?_,fun j hj=>d9 j (by rwa [hne _ _ hb]at hj),d10⟩;obtain ⟨seg,e1,e2⟩:=d8 i hi;exact ⟨seg,e1.mono hle (iP.refl _),e2⟩
 ·intro a es hA;have ha:a≠id:=by rintro rfl;rw [bC]at hA;cases hA
  rw [dL _ _ ha]at hA;obtain ⟨p,en,cl,d1,d2,d3,d4,d5,d6⟩:=hw.maps a es hA;have hb:p.b≠q.b:=fun e=>ha (hw.inj a id p q d1 hq e)
  refine ⟨p,en,cl,d1,d2,d3,d4,fun j=>by rw [hne _ _ hb];exact d5 j,fun i k v hi=>?_⟩;obtain ⟨e,e1,e2,e3⟩:=d6 i k v hi;exact ⟨e,e1,e2.mono hle (iP.refl _),e3.mono hle (iP.refl _)⟩
 ·intro a p hp;by_cases ha:a=id
  ·subst ha;rw [bC];simp
  ·rw [dL _ _ ha];exact hw.dom a p hp
 ·exact hw.inj
 ·intro b o y hy;unfold addN at hy;split at hy
  ·rename_i hb;obtain ⟨rfl,_⟩:=hb;simp only [World.cell?,hh];simpa using hy
  ·exact hw.imm b o y hy
theorem HY {m:Id→Option Ob} {id:Id} {o:Ob} (h:m id=some o):vV m id o=m:=by
 funext a;by_cases ha:a=id
 ·subst ha;rw [bC,h]
 ·rw [dL _ _ ha]
theorem EG {len:Nat} {cap:Option Nat} (h:I5 len cap=true):cap=some len:=by
 cases cap with
 | none=>cases h
 | some c=>rw [Nat.eq_of_beq_eq_true (show Nat.beq c len=true from h)]
theorem FP (hT:TOK P T N) {I:Imm} {ρ:Pl} {m:Id→Option Ob} {w:World} (hw:dR T N I ρ m w) {id:Id} {n i len:Nat} {cap:Option Nat} {y:Value} {B:Blk} (hm:m id=some (.cells B)) (hB:B.n=n) (hx:dI T N I ρ (.own id n i len cap) y)
 (hno:∀ j,j<len→dw (B.get (i+j))=true) :
 ∃ I1,iQ I I1∧Ev I ρ w I1 ρ w∧dR T N I1 ρ (vV m id (.cells { B with fz:=max B.fz (i+len) })) w∧dI T N I1 iI (.row B.ty (I5 len cap) len (fun j=>B.get (i+j))) y:=by
 rcases Rep.own_inv hx with ⟨rfl,rfl,rfl,rfl⟩ | ⟨q,hq,hn,hx⟩
 ·refine ⟨I,iQ.refl _,Ev.refl _ _ _,?_,[_],.row0 (hw.ty_lt hm),rfl⟩;have:({ B with fz:=max B.fz (0+0) }:Blk)=B:=by simp
  rw [this,HY hm];exact hw
 ·obtain ⟨q',cs,c1,c2,c3,c4,c5,c6,c7,c8,c9,c10⟩:=hw.cellsAt hm hq;rw [hq]at c1;cases c1;obtain ⟨c,rfl,g1,g2,g3,g4,g5,g6⟩:=hx (by rw [c3,hB]);obtain ⟨f1,f2,f3⟩:=hw.freeze hm hq c5 (k:=i+len) (by omega);refine ⟨_,f1,f2,f3,[_],?_,rfl⟩;have hex:∀ k,∃ seg,k<len→Rep T N I ρ (B.get (i+k)) seg∧fit T B.ty (B.get (i+k))=true∧seg.length=(T B.ty).size ∧ ∀ o,o<(T B.ty).size→cs[(i+k)*(T B.ty).size+o]? = seg[o]? := by
   intro k;by_cases hk:k<len
   ·obtain ⟨seg,hs⟩:=c8 (i+k) (by omega);exact ⟨seg,fun _=>hs⟩
   ·exact ⟨[],fun h=>absurd h hk⟩
  have hseg:=fun k=>Classical.choose_spec (hex k);refine .row q.b (i*(T q.ty).size) c (fun k=>Classical.choose (hex k)) c4 g1 g2 (fun h=>g6 _ (EG h)) (fun k hk=>(((hseg k hk).1.dw (hno k hk) iI).mono f1 (iP.refl _))) (fun k hk=>(hseg k hk).2.1) (fun k hk=>(hseg k hk).2.2.1) (fun k hk o ho=>?_);have h1:=(hseg k hk).2.2.2 o ho
  rw [← h1,c2];have e1:i*(T B.ty).size+(k*(T B.ty).size+o)=(i+k)*(T B.ty).size+o:=by rw [Nat.add_mul];omega
  have e2:(i+k+1)*(T B.ty).size≤(i+len)*(T B.ty).size:=Nat.mul_le_mul_right _ (by omega);rw [Nat.succ_mul]at e2;unfold addN;rw [e1,if_pos ⟨rfl,by omega⟩];simp
theorem eF {ids:List Id} {id:Id}:fV ids id=true↔id∈ids:=by
 simp only [fV,List.any_eq_true];constructor
 ·rintro ⟨a,h1,h2⟩;rw [ED h2];exact h1
 ·intro h;exact ⟨id,h,aN id⟩
theorem kS:∀ {ids:List Id},distinct ids=true→ids.Nodup
 | [],_=>List.nodup_nil
 | a::r,h=>by
  simp only [distinct,Bool.and_eq_true,Bool.not_eq_true']at h;rw [List.nodup_cons];refine ⟨fun hm=>?_,kS h.2⟩;have h1:=h.1
  rw [eF.2 hm]at h1;cases h1
theorem xU:∀ (ids:List Id) (k:Nat) {id:Id},id∈ids → ∃ j,ids[j]? = some id∧sig ids k id = .b (k+j)
 | [],_,_,h=>by cases h
 | a::r,k,id,h=>by
  by_cases e:id=a
  ·subst e;exact ⟨0,rfl,by simp [sig,aN]⟩
  ·have h':id∈r:=by cases h with | head=>exact absurd rfl e | tail _ h=>exact h
   obtain ⟨j,h1,h2⟩:=xU r (k+1) h';exact ⟨j+1,by simpa using h1,by simp only [sig,l7 e,cond_false,h2];congr 1;omega⟩
theorem Aa {α:Type} {l:List α} (h:l.Nodup) {i j:Nat} {a:α} (hi:l[i]? = some a) (hj:l[j]? = some a):i=j:=by
 have h1:=(List.getElem?_eq_some_iff.1 hi).1;exact (List.getElem?_inj h1 h).1 (hi.trans hj.symm)
theorem wK {ids:List Id} (h:ids.Nodup) {j:Nat} {id:Id} (hj:ids[j]? = some id):sig ids 0 id = .b j:=by
 obtain ⟨i,h1,h2⟩:=xU ids 0 (List.mem_of_getElem? hj);rw [h2,Nat.zero_add,Aa h h1 hj]
theorem P5 {ids:List Id} {j:Nat} {id:Id} (hj:ids[j]? = some id):tau ids (.b j)=id:=by simp [tau,List.getD_eq_getElem?_getD,hj]
theorem NG {n:Nat} {id:Id}:fV (bs n) id=true ↔ ∃ j,j<n∧id = .b j:=by
 rw [eF];simp only [bs,List.mem_map,List.mem_range];constructor
 ·rintro ⟨j,h1,rfl⟩;exact ⟨j,h1,rfl⟩
 ·rintro ⟨j,h1,rfl⟩;exact ⟨j,h1,rfl⟩
theorem zH {d:Nat}:∀ {j k:Nat} {id:Id},id∈sites d j k ↔ ∃ i,j≤i∧i<j+k∧id = .s d i
 | j,0,id=>by simp [sites];omega
 | j,k+1,id=>by
  simp only [sites,List.mem_cons,zH (j:=j+1)];constructor
  ·rintro (rfl | ⟨i,h1,h2,rfl⟩)
   ·exact ⟨j,by omega,by omega,rfl⟩
   ·exact ⟨i,by omega,by omega,rfl⟩
  ·rintro ⟨i,h1,h2,rfl⟩;by_cases e:i=j
   ·subst e;exact .inl rfl
   ·exact .inr ⟨i,by omega,by omega,rfl⟩
theorem uq (d:Nat):∀ (j k:Nat),(sites d j k).Nodup
 | _,0=>List.nodup_nil
 | j,k+1=>by
  simp only [sites,List.nodup_cons];refine ⟨fun h=>?_,uq d (j+1) k⟩;obtain ⟨i,h1,h2,h3⟩:=zH.1 h;cases h3;omega
theorem rP (d:Nat):∀ (j k:Nat),(sites d j k).length=k
 | _,0=>rfl
 | j,k+1=>by simp [sites,rP d (j+1) k]
theorem vS (m:Id→Option Ob):∀ (a b:List (Id×Ob)),je m (a++b)=je (je m a) b:=by
 intro a
 induction a generalizing m with
 | nil=>intro b;rfl
 | cons x a ih=>intro b;simp only [List.cons_append,je,ih]
theorem jJ {m:Id→Option Ob} {ids:List Id} {os:List Ob} {id:Id} (h:id∉ids):je m (ids.zip os) id=m id:=by
 induction ids generalizing m os with
 | nil=>rfl
 | cons a r ih =>
  cases os with
  | nil=>rfl
  | cons o os =>
   simp only [List.mem_cons,not_or]at h;simp only [List.zip_cons_cons,je];rw [ih h.2,dL _ _ h.1]
theorem tu {ids:List Id} (hn:ids.Nodup):∀ {m:Id→Option Ob} {os:List Ob} {j:Nat} {id:Id} {o:Ob},ids[j]? = some id→os[j]? = some o→je m (ids.zip os) id=some o:=by
 induction ids with
 | nil=>intro m os j id o h;simp at h
 | cons a r ih =>
  intro m os j id o h1 h2;rw [List.nodup_cons]at hn;cases os with
  | nil=>simp at h2
  | cons o' os =>
   simp only [List.zip_cons_cons,je];cases j with
   | zero =>
    simp at h1 h2;subst h1 h2;rw [jJ hn.1,bC]
   | succ j=>exact ih hn.2 (by simpa using h1) (by simpa using h2)
theorem qx {m:Id→Option Ob}:∀ {ids:List Id} {B:List Ob},gets m ids=some B→B.length=ids.length ∧ ∀ (j:Nat) (id:Id),ids[j]? = some id → ∃ o,B[j]? = some o∧m id=some o
 | [],B,h=>by cases h;exact ⟨rfl,fun j id h=>by simp at h⟩
 | i::r,B,h=>by
  simp only [gets,Option.bind_eq_some_iff,Option.some.injEq]at h;obtain ⟨o,h1,l,h2,rfl⟩:=h;obtain ⟨h3,h4⟩:=qx h2;refine ⟨by simp [h3],fun j id hj=>?_⟩;cases j with
  | zero=>simp at hj;subst hj;exact ⟨o,rfl,h1⟩
  | succ j=>simpa using h4 j id (by simpa using hj)
theorem uN {ids:List Id}:∀ {l:List Ob} {j:Nat} {o:Ob},lg ids l→l[j]? = some o→okO ids o
 | [],_,_,_,h=>by simp at h
 | x::r,j,o,h,hj=>by
  cases j with
  | zero=>simp at hj;subst hj;exact h.1
  | succ j=>exact uN h.2 (by simpa using hj)
def nR (ids:List Id) (ρ:Pl):Pl:=fun id=>match id with
 | .b j=>(ids[j]?).bind ρ
 | .s _ _=>none
theorem uT {ids:List Id} (h:ids.Nodup) (ρ:Pl):∀ id,fV ids id=true→nR ids ρ (sig ids 0 id)=ρ id:=by
 intro id hi;obtain ⟨j,h1,h2⟩:=xU ids 0 (eF.1 hi);rw [h2,Nat.zero_add];simp [nR,h1]
theorem kD {ids:List Id} {ρ:Pl} {id:Id} {p:Place} (h:nR ids ρ id=some p):∃ j a,id = .b j∧ids[j]? = some a∧ρ a=some p:=by
 cases id with
 | b j =>
  simp only [nR,Option.bind_eq_some_iff]at h;obtain ⟨a,h1,h2⟩:=h;exact ⟨j,a,rfl,h1,h2⟩
 | s k i=>cases h
theorem zl {I:Imm} {ρ:Pl} {m:Id→Option Ob} {w:World} (hw:dR T N I ρ m w) {ids:List Id} {B:List Ob} (hd:ids.Nodup) (hB:gets m ids=some B) (hok:lg ids B) :
 dR T N I (nR ids ρ) (ofB (B.map (iG (sig ids 0)))) w:=by
 obtain ⟨hl,hg⟩:=qx hB;have hσ:=uT hd ρ
 have hof:∀ (id:Id) (o:Ob),ofB (B.map (iG (sig ids 0))) id=some o → ∃ j a o',id = .b j∧ids[j]? = some a∧B[j]? = some o'∧m a=some o'∧o=iG (sig ids 0) o':=by
  intro id o h;cases id with
  | s k i=>cases h
  | b j =>
   simp only [ofB,List.getElem?_map,Option.map_eq_some_iff]at h;obtain ⟨o',h1,h2⟩:=h;have hj:j<ids.length:=by rw [← hl];exact (List.getElem?_eq_some_iff.1 h1).1
   obtain ⟨o'',h3,h4⟩:=hg j ids[j] (List.getElem?_eq_getElem hj);rw [h1]at h3;cases h3;exact ⟨j,ids[j],o',rfl,List.getElem?_eq_getElem hj,h1,h4,h2.symm⟩
 refine ⟨?_,?_,?_,?_,hw.imm,hw.gl⟩
 ·intro id A hA;obtain ⟨j,a,o',rfl,h1,h2,h3,h4⟩:=hof id _ hA;have hok':=uN hok h2
  cases o' with
  | map es=>cases h4
  | cells B0 =>
   simp only [iG,Ob.cells.injEq]at h4;subst h4;rcases hw.cells a B0 h3 with ⟨h,h'⟩ | ⟨p,ds,d1,d2,d3,d4,d5,d6,d7,d8,d9,d10⟩
   ·exact .inl ⟨by simp [nR,h1,h],h'⟩
   ·refine .inr ⟨p,ds,by simp [nR,h1,d1],d2,d3,d4,d5,d6,d7,fun i hi=>?_,d9,d10⟩;obtain ⟨seg,e1,e2,e3,e4⟩:=d8 i hi;exact ⟨seg,e1.ren hσ (hok' i hi),by simp only;rw [pJ];exact e2,e3,e4⟩
 ·intro id es hA;obtain ⟨j,a,o',rfl,h1,h2,h3,h4⟩:=hof id _ hA;have hok':=uN hok h2
  cases o' with
  | cells B0=>cases h4
  | map es0 =>
   simp only [iG,Ob.map.injEq]at h4;subst h4;obtain ⟨p,en,cl,d1,d2,d3,d4,d5,d6⟩:=hw.maps a es0 h3;refine ⟨p,en,cl,by simp [nR,h1,d1],d2,d3,by simpa using d4,d5,fun i k v hi=>?_⟩;simp only [List.getElem?_map,Option.map_eq_some_iff,Prod.mk.injEq]at hi;obtain ⟨⟨k0,v0⟩,h5,rfl,rfl⟩:=hi;obtain ⟨e,e1,e2,e3⟩:=d6 i k0 v0 h5;have:=hok' _ (List.mem_of_getElem? h5)
   exact ⟨e,e1,e2.ren hσ this.1,e3.ren hσ this.2⟩
 ·intro id p hp;obtain ⟨j,a,rfl,h1,h2⟩:=kD hp;obtain ⟨o,h3,h4⟩:=hg j a h1;simp [ofB,h3]
 ·intro i j p q hp hq e;obtain ⟨i',a,rfl,h1,h2⟩:=kD hp;obtain ⟨j',b,rfl,h3,h4⟩:=kD hq;have:=hw.inj a b p q h2 h4 e
  subst this;rw [Aa hd h1 h3]
end
section
variable {P:Program} {T:Nat→TI} {N:Nat}
def wF (all:List Id) (ρ ρ':Pl):Pl:=fun id=>if fV all id=true then ρ' (sig all 0 id)else ρ id
theorem jR {all:List Id} (hn:all.Nodup) (ρ ρ':Pl) {j:Nat} {id:Id} (h:all[j]? = some id):wF all ρ ρ' id=ρ' (.b j):=by
 unfold wF;rw [if_pos (eF.2 (List.mem_of_getElem? h)),wK hn h]
theorem iM {all:List Id} (ρ ρ':Pl) {id:Id} (h:id∉all):wF all ρ ρ' id=ρ id:=by
 unfold wF;rw [if_neg (fun e=>h (eF.1 e))]
theorem zn {I I':Imm} {ρ ρ':Pl} {m:Id→Option Ob} {w w':World} (hw:dR T N I ρ m w) {ids news:List Id} {out:List Ob} (hn:(ids++news).Nodup) (hnew:∀ id∈news,m id=none) (hl:out.length=(ids++news).length)
 (hids:∀ id∈ids,m id≠none)
 (hev:Ev I (nR ids ρ) w I' ρ' w') (hw':dR T N I' ρ' (ofB out) w') (hok:lg (bs out.length) out) :
 Ev I ρ w I' (wF (ids++news) ρ ρ') w'∧dR T N I' (wF (ids++news) ρ ρ') (je m ((ids++news).zip (out.map (iG (tau (ids++news)))))) w' ∧
  (∀ id,fV (bs out.length) id=true→wF (ids++news) ρ ρ' (tau (ids++news) id)=ρ' id):=by
 have hτ:∀ id,fV (bs out.length) id=true→wF (ids++news) ρ ρ' (tau (ids++news) id)=ρ' id:=by
  intro id h;obtain ⟨j,h1,rfl⟩:=NG.1 h;have h2:(ids++news)[j]? = some ((ids++news)[j]'(by omega)):=List.getElem?_eq_getElem _
  rw [P5 h2,jR hn _ _ h2]
 have hlend:∀ a p,a∈ids→ρ a=some p → ∃ j,(ids++news)[j]? = some a∧nR ids ρ (.b j)=some p:=by
  intro a p ha hp;obtain ⟨j,hj⟩:=List.getElem?_of_mem ha;have hjl:j<ids.length:=(List.getElem?_eq_some_iff.1 hj).1
  exact ⟨j,by rw [List.getElem?_append_left hjl];exact hj,by simp [nR,hj,hp]⟩
 have hnone:∀ a p,a∈news→ρ a=some p→False:=fun a p ha hp=>hw.dom a p hp (hnew a ha);have hle:iP ρ (wF (ids++news) ρ ρ'):=by
  intro a p hp;by_cases ha:a∈ids++news
  ·rcases List.mem_append.1 ha with h | h
   ·obtain ⟨j,h1,h2⟩:=hlend a p h hp;rw [jR hn _ _ h1];exact hev.pl _ _ h2
   ·exact (hnone a p h hp).elim
  ·exact ⟨p,by rw [iM _ _ ha];exact hp,Nat.le_refl _,fun _=>rfl⟩
 have hfar:∀ a p,a∉ids++news→ρ a=some p → ∀ id p',nR ids ρ id=some p'→p'.b≠p.b:=by
  intro a p ha hp id p' h e;obtain ⟨j,a',rfl,h1,h2⟩:=kD h;have:=hw.inj a' a p' p h2 hp e
  subst this;exact ha (List.mem_append_left _ (List.mem_of_getElem? h1))
 have hplN:∀ id p',ρ' id=some p'→(∃ a p,a∈ids∧ρ a=some p∧p.b=p'.b)∨w.heap.size≤p'.b:=by
  intro id p' h;rcases hev.plN id p' h with ⟨id0,p,h1,h2⟩ | h1
  ·obtain ⟨j,a,rfl,h3,h4⟩:=kD h1;exact .inl ⟨a,p,List.mem_of_getElem? h3,h4,h2⟩
  ·exact .inr h1
 have hfrb:∀ b,b<w.heap.size→(∀ id p,nR ids ρ id=some p→p.b≠b)→w'.heap[b]? = w.heap[b]? := hev.frame;refine ⟨⟨hev.imm,?_,hle,?_,?_,hev.size,hev.os,hev.output,hev.tape⟩,⟨?_,?_,?_,?_,hw'.imm,hw'.gl⟩,hτ⟩
 ·intro b o h h';rcases hev.immN b o h h' with ⟨id,p,h1,h2⟩ | h1
  ·obtain ⟨j,a,rfl,h3,h4⟩:=kD h1;exact .inl ⟨a,p,h4,h2⟩
  ·exact .inr h1
 ·intro a p' h;by_cases ha:a∈ids++news
  ·obtain ⟨j,hj⟩:=List.getElem?_of_mem ha;rw [jR hn _ _ hj]at h;rcases hplN _ _ h with ⟨a0,p,_,h1,h2⟩ | h1
   ·exact .inl ⟨a0,p,h1,h2⟩
   ·exact .inr h1
  ·rw [iM _ _ ha]at h;exact .inl ⟨a,p',h,rfl⟩
 ·intro b hb hne;refine hfrb b hb (fun id p h=>?_);obtain ⟨j,a,rfl,h3,h4⟩:=kD h;exact hne a p h4
 ·intro a A hA;by_cases ha:a∈ids++news
  ·obtain ⟨j,hj⟩:=List.getElem?_of_mem ha;have hjl:j<out.length:=by rw [hl];exact (List.getElem?_eq_some_iff.1 hj).1
   rw [tu hn hj (o:=iG (tau (ids++news)) out[j]) (by simp [hjl])]at hA;have hoj:ofB out (.b j)=some out[j]:=by simp [ofB,hjl]
   have hok':=uN hok (List.getElem?_eq_getElem hjl);revert hA hoj hok';cases out[j]with
   | map es=>intro hA;cases hA
   | cells B0 =>
    intro hA hoj hok';simp only [iG,Option.some.injEq,Ob.cells.injEq]at hA;subst hA;rcases hw'.cells (.b j) B0 hoj with ⟨h,h'⟩ | ⟨p,ds,d1,d2,d3,d4,d5,d6,d7,d8,d9,d10⟩
    ·exact .inl ⟨by rw [jR hn _ _ hj];exact h,h'⟩
    ·refine .inr ⟨p,ds,by rw [jR hn _ _ hj];exact d1,d2,d3,d4,d5,d6,d7,fun i hi=>?_,d9,d10⟩;obtain ⟨seg,e1,e2,e3,e4⟩:=d8 i hi;exact ⟨seg,e1.ren hτ (hok' i hi),by simp only;rw [pJ];exact e2,e3,e4⟩
  ·rw [jJ ha]at hA;rcases hw.cells a A hA with ⟨h,h'⟩ | ⟨p,ds,d1,d2,d3,d4,d5,d6,d7,d8,d9,d10⟩
   ·exact .inl ⟨by rw [iM _ _ ha];exact h,h'⟩
   ·have hp:=hw.place_lt d1;have hf:=hfar a p ha d1
    refine .inr ⟨p,ds,by rw [iM _ _ ha];exact d1,d2,d3,d4,by rw [hfrb _ hp hf];exact d5,d6,d7,fun i hi=>?_,fun j hj=>d9 j (fun e=>?_),d10⟩
    ·obtain ⟨seg,e1,e2,e3,e4⟩:=d8 i hi;exact ⟨seg,e1.mono hev.imm hle,e2,e3,e4⟩
    ·rcases hev.immN _ _ e hj with ⟨id,p',h1,h2⟩ | h1
     ·exact hf id p' h1 h2
     ·omega
 ·intro a es hA;by_cases ha:a∈ids++news
  ·obtain ⟨j,hj⟩:=List.getElem?_of_mem ha;have hjl:j<out.length:=by rw [hl];exact (List.getElem?_eq_some_iff.1 hj).1
   rw [tu hn hj (o:=iG (tau (ids++news)) out[j]) (by simp [hjl])]at hA;have hoj:ofB out (.b j)=some out[j]:=by simp [ofB,hjl]
   have hok':=uN hok (List.getElem?_eq_getElem hjl);revert hA hoj hok';cases out[j]with
   | cells B0=>intro hA;cases hA
   | map es0 =>
    intro hA hoj hok';simp only [iG,Option.some.injEq,Ob.map.injEq]at hA;subst hA;obtain ⟨p,en,cl,d1,d2,d3,d4,d5,d6⟩:=hw'.maps (.b j) es0 hoj;refine ⟨p,en,cl,by rw [jR hn _ _ hj];exact d1,d2,d3,by simpa using d4,d5,fun i k v hi=>?_⟩;simp only [List.getElem?_map,Option.map_eq_some_iff,Prod.mk.injEq]at hi;obtain ⟨⟨k0,v0⟩,h5,rfl,rfl⟩:=hi;obtain ⟨e,e1,e2,e3⟩:=d6 i k0 v0 h5;have:=hok' _ (List.mem_of_getElem? h5)
    exact ⟨e,e1,e2.ren hτ this.1,e3.ren hτ this.2⟩
  ·rw [jJ ha]at hA;obtain ⟨p,en,cl,d1,d2,d3,d4,d5,d6⟩:=hw.maps a es hA;have hp:=hw.place_lt d1
   have hf:=hfar a p ha d1;refine ⟨p,en,cl,by rw [iM _ _ ha];exact d1,d2,by rw [hfrb _ hp hf];exact d3,d4,fun j=>?_,fun i k v hi=>?_⟩
   ·cases hj:I' p.b j with
    | none=>rfl
    | some y =>
     rcases hev.immN _ _ (d5 j) (by rw [hj];simp)with ⟨id,p',h1,h2⟩ | h1
     ·exact (hf id p' h1 h2).elim
     ·omega
   ·obtain ⟨e,e1,e2,e3⟩:=d6 i k v hi;exact ⟨e,e1,e2.mono hev.imm hle,e3.mono hev.imm hle⟩
 ·intro a p h;by_cases ha:a∈ids++news
  ·obtain ⟨j,hj⟩:=List.getElem?_of_mem ha;have hjl:j<out.length:=by rw [hl];exact (List.getElem?_eq_some_iff.1 hj).1
   rw [tu hn hj (o:=iG (tau (ids++news)) out[j]) (by simp [hjl])];simp
  ·rw [iM _ _ ha]at h;rw [jJ ha];exact hw.dom a p h
 ·intro a c p q hp hq e;have key:∀ (a c:Id) (p q:Place),a∈ids++news→c∉ids++news→wF (ids++news) ρ ρ' a=some p→ρ c=some q→p.b=q.b→False:=by
   intro a c p q ha hc hp hq e;obtain ⟨j,hj⟩:=List.getElem?_of_mem ha;rw [jR hn _ _ hj]at hp;rcases hplN _ _ hp with ⟨a0,p0,h0,h1,h2⟩ | h1
   ·have:=hw.inj a0 c p0 q h1 hq (h2.trans e);subst this;exact hc (List.mem_append_left _ h0)
   ·have:=hw.place_lt hq;omega
  by_cases ha:a∈ids++news
  ·by_cases hc:c∈ids++news
   ·obtain ⟨j,hj⟩:=List.getElem?_of_mem ha;obtain ⟨k,hk⟩:=List.getElem?_of_mem hc;rw [jR hn _ _ hj]at hp;rw [jR hn _ _ hk]at hq;have:=hw'.inj _ _ p q hp hq e
    cases this;rw [hj]at hk;cases hk;rfl
   ·rw [iM _ _ hc]at hq;exact (key a c p q ha hc hp hq e).elim
  ·by_cases hc:c∈ids++news
   ·rw [iM _ _ ha]at hp;exact (key c a q p hc ha hq hp e.symm).elim
   ·rw [iM _ _ ha]at hp;rw [iM _ _ hc]at hq;exact hw.inj a c p q hp hq e
theorem BI (hT:TOK P T N) {I:Imm} {ρ:Pl} {m:Id→Option Ob} {w:World} (hw:dR T N I ρ m w) {ids:List Id} (hd:ids.Nodup) {x:AV} {y:Value} {r:AV×List (Id×Ob)×Option Prop} (hx:gI T N I ρ x y) (h:Fe ids m x=some r) (hc:aj r.2.2) :
 ∃ I1,iQ I I1∧Ev I ρ w I1 ρ w∧dR T N I1 ρ (je m r.2.1) w∧gI T N I1 (nR ids ρ) r.1 y:=by
 unfold Fe at h;split at h
 ·rename_i id n i len cap;by_cases hi:fV ids id=true
  ·rw [hi]at h;cases h;have:=hx.ren (uT hd ρ) (show dM ids (.own id n i len cap)=true from hi)
   exact ⟨I,iQ.refl _,Ev.refl _ _ _,hw,this⟩
  ·have hi':fV ids id=false:=by simpa using hi
   rw [hi']at h;simp only [cond_false]at h;split at h
   ·rename_i B hm;have ecomm:(fun j=>B.get (j+i))=fun j=>B.get (i+j):=funext fun j=>by rw [Nat.add_comm]
    cases h;simp only [aj]at hc;obtain ⟨I1,h1,h2,h3,h4⟩:=FP hT hw hm hc.1 (hx.rep1 (fun _=>by simp)) (fun j hj=>(show dw (B.get (i+j))=true from Nat.add_comm j i▸hc.2 j hj));rw [← ecomm]at h4;exact ⟨I1,h1,h2,h3,.one (h4.mono (iQ.refl _) (yC _))⟩
   ·cases h
 ·cases h
 ·obtain ⟨hb,h⟩:=ak h;cases h;exact ⟨I,iQ.refl _,Ev.refl _ _ _,hw,hx.ren (uT hd ρ) hb⟩
theorem oV (hT:TOK P T N) {ρ:Pl} {w:World} {ids:List Id} (hd:ids.Nodup):∀ (xs:List AV) (ys:List Value) {I:Imm} {m:Id→Option Ob} (r:List AV×List (Id×Ob)×Option Prop),dR T N I ρ m w→ys.length=xs.length →
 (∀ (i:Nat) (x:AV) (y:Value),xs[i]? = some x→ys[i]? = some y→gI T N I ρ x y)→zo ids m xs=some r→aj r.2.2 →
 ∃ I1,iQ I I1∧Ev I ρ w I1 ρ w∧dR T N I1 ρ (je m r.2.1) w∧r.1.length=xs.length∧(∀ (i:Nat) (x:AV) (y:Value),r.1[i]? = some x→ys[i]? = some y→gI T N I1 (nR ids ρ) x y)
 | [],ys,I,m,r,hw,_,_,h,_=>by cases h;exact ⟨I,iQ.refl _,Ev.refl _ _ _,hw,rfl,fun i x y hi=>by simp at hi⟩
 | x::xs,[],I,m,r,hw,hl,_,_,_=>by simp at hl
 | x::xs,y::ys,I,m,r,hw,hl,hr,h,hc=>by
  simp only [zo,Option.bind_eq_some_iff,Option.some.injEq]at h;obtain ⟨a,h1,l,h2,rfl⟩:=h;rw [aB]at hc;obtain ⟨I1,g1,g2,g3,g4⟩:=BI hT hw hd (hr 0 x y rfl rfl) h1 hc.1;obtain ⟨I2,k1,k2,k3,k4,k5⟩:=oV hT hd xs ys l g3 (by simpa using hl) (fun i x' y' h3 h4=>(hr (i+1) x' y' (by simpa using h3) (by simpa using h4)).mono g1 (iP.refl _)) h2 hc.2;refine ⟨I2,g1.trans k1,g2.trans k2,by simp only;rw [vS];exact k3,by simp [k4],fun i x' y' h3 h4=>?_⟩;cases i with
  | zero =>
   simp at h3 h4;subst h3 h4;exact g4.mono k1 (iP.refl _)
  | succ i=>exact k5 i x' y' (by simpa using h3) (by simpa using h4)
end
section
variable {P:Program} {T:Nat→TI} {N:Nat}
def Pq (P:Program) (T:Nat→TI) (N:Nat) (I:Imm) (ρ:Pl) (m:Id→Option Ob) (r:R) (run:World→Result Next) (w:World):Prop :=
 ∃ f vs,run w = .ok (.enter f vs) w∧Calls P f vs w fun e w' => ∃ v I' ρ',e = .returned v∧Ev I ρ w I' ρ' w'∧gI T N I' ρ' r.v v∧dR T N I' ρ' (je m r.d) w'
theorem xZ {a:Act} {o:Oper} {c:Call} {fo:Operand} {f:FuncId} {ys:Array Value} (hop:o.op = .call c) (hc:c.callee = .value fo) (hf:a.eval fo = .func (.func f) #[] ys) (hcl:callable P f) (w:World) :
 (execOp a.eval o).run P w = .ok (.enter f ((c.args.map a.eval)++ys)) w:=by
 obtain ⟨fn,h1,h2,h3⟩:=hcl;have h4:fn.body.isNone=false:=by
  cases hb:fn.body with
  | none=>rw [hb]at h3;cases h3
  | some _=>rfl
 have h5:¬ fn.name = "runtime.NumGoroutine" := by simpa using h2
 have h6:¬ fn.body=none:=by intro e;rw [e]at h4;cases h4
 simp [execOp,hop,resolve,hc,hf,Deferred.ofValue,invoke,callFunc,h1,h5,h6]
theorem dI.clo_inv {I:Imm} {ρ:Pl} {f:FuncId} {caps:List AV} {y:Value} (h:dI T N I ρ (.clo f caps) y):∃ ys:Array Value,y = .func (.func f) #[] ys∧ys.size=caps.length ∧ ∀ (i:Nat) (c:AV),caps[i]? = some c→Rep T N I ρ c [ys.getD i undef]:=by
 obtain ⟨cs,h1,h2⟩:=h;cases h1 with
 | clo ys hl h=>exact ⟨ys,h2,hl,h⟩
theorem Rep.one_packed {I:Imm} {ρ:Pl} {x:AV} {y:Value} (h:Rep T N I ρ x [y]) (hx:∀ t n g,x ≠ .agg t n g):dI T N I ρ x y:=by
 refine ⟨[y],h,?_⟩;unfold bZ;split
 ·exact absurd rfl (hx _ _ _)
 ·rfl
theorem yZ {I:Imm} {ρ:Pl} {en:Entry} {st:St} {a:Act} {w:World} (hs:dU T N en I ρ st a w) {G:D} (hG:G.tr) {c:Call} {l:List AV×Option Prop} (h:needs G st c.args.toList=some l) (hc:aj l.2) {caps:List AV} {ys:Array Value}
 (hl:ys.size=caps.length) (hcap:∀ (i:Nat) (c:AV),caps[i]? = some c→Rep T N I ρ c [ys.getD i undef]) (hone:∀ c∈caps,∀ t n g,c ≠ .agg t n g) :
 ((c.args.map a.eval)++ys).toList.length=(l.1++caps).length ∧ ∀ (i:Nat) (x:AV) (y:Value),(l.1++caps)[i]? = some x→((c.args.map a.eval)++ys).toList[i]? = some y→gI T N I ρ x y:=by
 obtain ⟨h1,h2⟩:=lC hs hG h hc;have hsz:(c.args.map a.eval).toList.length=l.1.length:=by simp [h1]
 refine ⟨by simp [h1,hl],fun i x y hx hy=>?_⟩;rw [Array.toList_append]at hy;rcases Nat.lt_or_ge i l.1.length with hi | hi
 ·rw [List.getElem?_append_left hi]at hx;rw [List.getElem?_append_left (by omega)]at hy;simp only [Array.toList_map,List.getElem?_map,Option.map_eq_some_iff]at hy;obtain ⟨z,hz,rfl⟩:=hy;exact h2 i z x hz hx
 ·rw [List.getElem?_append_right hi]at hx;rw [List.getElem?_append_right (by omega),hsz]at hy;have:=hcap _ _ hx
  have hyd:ys.getD (i - l.1.length) undef=y:=by
   simp only [Array.getElem?_toList]at hy;simp [hy]
  rw [hyd]at this;exact .one (this.one_packed (hone _ (List.mem_of_getElem? hx)))
theorem uM {caps:List AV} (h:caps.all Om=true):∀ c∈caps,∀ t n g,c ≠ .agg t n g:=by
 rintro c hc t n g rfl;have:=List.all_eq_true.1 h _ hc
 cases this
theorem Gw {m:Id→Option Ob} {l:List Id} (h:l.all (fun id=>isNone (m id))=true):∀ id∈l,m id=none:=fun id hi=>iq (List.all_eq_true.1 h id hi)
theorem Jj (hT:TOK P T N) {en:Entry} {I:Imm} {ρ:Pl} {st:St} {a:Act} {w:World} (hs:dU T N en I ρ st a w) {G:D} (hG:G.tr) {gs:List CG} {o:Oper} {r:R×List CG}
 (h:evK T (AC P T N) st G gs o=some r) (hc:aj r.1.c):Pq P T N I ρ st.m r.1 (fun w=>(execOp a.eval o).run P w) w:=by
 have hw:=hs.wr;unfold evK at h;split at h
 ·rename_i c g gs' hop;split at h
  ·rename_i fo hcal;simp only [Option.bind_eq_some_iff]at h;obtain ⟨fa,h1,l,h2,h⟩:=h;split at h
   ·
     rename_i f caps hfa hlent;simp only [Option.bind_eq_some_iff]at h;obtain ⟨fz,h3,h⟩:=h;obtain ⟨hb,h⟩:=ak h;cases h;simp only [Bool.and_eq_true]at hb;rw [aB,aB,aB]at hc;obtain ⟨k1,k2,k3,k4⟩:=hc;have hac:=jg hG k4
     have k3':aj fz.2.1:=by
      revert k3;cases fz.2.1 with
      | none=>intro _;trivial
      | some q=>intro k3;exact jg hG k3
     have hrf:=aI hs hG h1 k1;rw [hfa]at hrf;obtain ⟨ys,e1,e2,e3⟩:=(hrf.rep1 (fun _=>by simp)).clo_inv;obtain ⟨a1,a2⟩:=yZ hs hG h2 k2 e2 e3 (uM hb.2);obtain ⟨z1,z2⟩:=xk hT hw _ _ fz a1 a2 h3 k3';refine ⟨f,_,xZ hop hcal e1 hac.1 w,?_⟩;have hcall:=JF hT hw hac (vs:=((c.args.map a.eval)++ys).toList) (fz:=fz.2.2.1) (by rw [z1];exact a1) z2 hb.1.1 (fun hf=>by
      have:=hb.1.2;rw [hf]at this;simpa using this)
     simp only [Array.toArray_toList]at hcall;refine hcall.mono ?_;rintro e w' ⟨v,I',rfl,g1,g2,g3⟩;exact ⟨v,I',ρ,rfl,g1,g2,g3⟩
   ·
     rename_i f caps hfa hlent;cases hlk:Ez g with
     | true =>
      simp only [hlk,cond_true,Option.bind_eq_some_iff]at h;obtain ⟨vw,h3,B,h4,h⟩:=h;obtain ⟨hb,h⟩:=ak h;cases h;simp only [Bool.and_eq_true]at hb;obtain ⟨⟨⟨b1,b2⟩,b3⟩,b5⟩:=hb;rw [aB,aB,aB]at hc;obtain ⟨k1,k2,k3,k4,k5,k6,hac⟩:=hc;have hrf:=aI hs hG h1 k1
      rw [hfa]at hrf;obtain ⟨ys,e1,e2,e3⟩:=(hrf.rep1 (fun _=>by simp)).clo_inv;obtain ⟨a1,a2⟩:=yZ hs hG h2 k2 e2 e3 (uM b2);have hd:=kS b3
      obtain ⟨I1,v1,v2,v3,v4,v5⟩:=oV hT hd _ _ vw hw a1 a2 h3 k3;obtain ⟨gl,gg⟩:=qx h4;have hids:∀ id∈g.ids,je st.m vw.2.1 id≠none:=fun id hi=>by
       obtain ⟨j,hj⟩:=List.getElem?_of_mem hi;obtain ⟨ob,_,h6⟩:=gg j id hj;rw [h6];simp
      refine ⟨f,_,xZ hop hcal e1 hac.1 w,?_⟩;have hcall:=hac.2 I1 (nR g.ids ρ) w ((c.args.map a.eval)++ys).toList (by rw [v4];exact a1) v5 (zl v3 hd h4 k4)
      simp only [Array.toArray_toList]at hcall;refine hcall.mono ?_;rintro e w' ⟨v,I',ρ',rfl,g1,g2,g3⟩;have hBl:(B.map (iG (sig g.ids 0))).length=g.ids.length:=by rw [List.length_map,gl]
      obtain ⟨q1,q2,q3⟩:=zn (news:=[]) v3 (by rw [List.append_nil];exact hd) (fun id hi=>by cases hi) (by rw [List.append_nil];exact hBl) hids g1 g3 (by rw [hBl];exact k5);rw [hBl]at q3;simp only [List.append_nil]at q1 q2 q3;rw [k6]at q2;have hsame:je (je st.m vw.2.1) (g.ids.zip B)=je st.m vw.2.1:=by
       funext id;by_cases hi:id∈g.ids
       ·obtain ⟨j,hj⟩:=List.getElem?_of_mem hi;obtain ⟨ob,h5,h6⟩:=gg j id hj;rw [tu hd hj h5,h6]
       ·exact jJ hi
      rw [hsame]at q2;exact ⟨v,I',_,rfl,v2.trans q1,g2.ren q3 b5,q2⟩
     | false =>
      simp only [hlk,cond_false]at h;simp only [Option.bind_eq_some_iff]at h;obtain ⟨vw,h3,B,h4,h⟩:=h;obtain ⟨hb,h⟩:=ak h;cases h;simp only [Bool.and_eq_true]at hb;obtain ⟨⟨⟨⟨⟨b1,b2⟩,b3⟩,b4⟩,b5⟩,b6⟩:=hb;rw [aB,aB,aB]at hc;obtain ⟨k1,k2,k3,k4,k5,hac⟩:=hc;have hrf:=aI hs hG h1 k1
      rw [hfa]at hrf;obtain ⟨ys,e1,e2,e3⟩:=(hrf.rep1 (fun _=>by simp)).clo_inv;obtain ⟨a1,a2⟩:=yZ hs hG h2 k2 e2 e3 (uM b2);have hd:=kS b3
      obtain ⟨I1,v1,v2,v3,v4,v5⟩:=oV hT hd _ _ vw hw a1 a2 h3 k3;have hnew:=Gw b6
      obtain ⟨gl,gg⟩:=qx h4;have hids:∀ id∈g.ids,je st.m vw.2.1 id≠none:=fun id hi=>by
       obtain ⟨j,hj⟩:=List.getElem?_of_mem hi;obtain ⟨ob,_,h6⟩:=gg j id hj;rw [h6];simp
      have hle:g.ids.length≤g.out.length:=by simpa [Nat.ble_eq]using b4
      have hn:(g.ids++sites (o.dst.getD 0) 1 (g.out.length - g.ids.length)).Nodup:=by
       rw [List.nodup_append];exact ⟨hd,uq _ _ _,fun x hx y hy e=>by subst e;exact hids x hx (hnew x hy)⟩
      have hlen:g.out.length=(g.ids++sites (o.dst.getD 0) 1 (g.out.length - g.ids.length)).length:=by
       rw [List.length_append,rP];omega
      refine ⟨f,_,xZ hop hcal e1 hac.1 w,?_⟩;have hcall:=hac.2 I1 (nR g.ids ρ) w ((c.args.map a.eval)++ys).toList (by rw [v4];exact a1) v5 (zl v3 hd h4 k4)
      simp only [Array.toArray_toList]at hcall;refine hcall.mono ?_;rintro e w' ⟨v,I',ρ',rfl,g1,g2,g3⟩;obtain ⟨q1,q2,q3⟩:=zn v3 hn hnew hlen hids g1 g3 k5;refine ⟨v,I',_,rfl,v2.trans q1,g2.ren q3 b5,?_⟩;rw [vS];exact q2
   ·cases h
  ·cases h
 ·cases h
end
section
variable {P:Program} {T:Nat→TI} {N:Nat}
def IsB (x:Option Int) (y:Option Value):Prop:=match x,y with
 | none,none=>True
 | some j,some v => ∃ k,v = .int k j
 | _,_=>False
theorem qU {e:Entry} {I:Imm} {ρ:Pl} {st:St} {a:Act} {w:World} (hs:dU T N e I ρ st a w) {G:D} (hG:G.tr) {x:Option Operand} {r:Option Int×Option Prop} (h:Np G st x=some r) (hc:aj r.2):IsB r.1 (x.map a.eval):=by
 cases x with
 | none=>cases h;trivial
 | some x =>
  simp only [Np,Option.bind_eq_some_iff,Option.some.injEq]at h;obtain ⟨b,h1,j,h2,rfl⟩:=h;have hr:=aI hs hG h1 hc
  unfold RN at h2;split at h2
  ·rename_i k j' hb;cases h2;rw [hb]at hr;exact ⟨k,hr.v.1⟩
  ·cases h2
theorem kW {k:IntKind} {j:Int} {y:Nat} {c:BoundsCode} (w:World) (h:0≤j∧j≤y):(Instr.sliceBound (.int k j) y c).run P w = .ok j.toNat w:=by
 simp [Instr.sliceBound,asIntOf,h]
def iR (mx:Option Int) (cap:Nat):Nat:=match mx with | some q=>q.toNat | none=>cap
theorem qg {lo hi mx:Option Int} {len cap:Nat} (hlc:len≤cap) (h:rO (slB lo hi mx len) len):iR mx cap≤cap∧(hi.getD len).toNat≤iR mx cap:=by
 simp only [rO,slB]at h;cases mx with
 | none=>simp only [Option.getD_none]at h;simp only [iR];omega
 | some q=>simp only [Option.getD_some]at h;simp only [iR];omega
theorem wP {b:Bool} {len cap:Nat} (hlc:len≤cap) {lo hi mx:Option Int} {lo' hi' mx':Option Value} (hl:IsB lo lo') (hh:IsB hi hi') (hm:IsB mx mx') (hno:(BH mx || !BH hi)=true) (hok:rO (slB lo hi mx len) len) (w:World) :
 (Instr.sliceBounds b len cap lo' hi' mx').run P w = .ok ((lo.getD 0).toNat,(hi.getD len).toNat,iR mx cap) w:=by
 simp only [rO,slB]at hok;obtain ⟨h1,h2,h3,h4⟩:=hok;cases mx with
 | none =>
  cases mx' with
  | some v=>exact hm.elim
  | none =>
   simp only [Option.getD_none]at h3 h4;cases hi with
   | none =>
    cases hi' with
    | some v=>exact hh.elim
    | none =>
     cases lo with
     | none =>
      cases lo' with
      | some v=>exact hl.elim
      | none=>simp [iR,Instr.sliceBounds]
     | some l =>
      cases lo' with
      | none=>exact hl.elim
      | some v =>
       obtain ⟨k,rfl⟩:=hl;simp only [Option.getD_some,Option.getD_none]at h1 h2;have hb:=kW (P:=P) (k:=k) (c := .sliceB) w (y:=len) ⟨h1,h2⟩
       simp [iR,Instr.sliceBounds,hb]
   | some hv =>
    cases hi' with
    | none=>exact hh.elim
    | some v =>
     obtain ⟨k,rfl⟩:=hh;simp only [Option.getD_some]at h2 h3;have hb:∀ c,(Instr.sliceBound (.int k hv) cap c).run P w = .ok hv.toNat w:=fun c=>kW w ⟨by omega,by omega⟩
     cases lo with
     | none =>
      cases lo' with
      | some v=>exact hl.elim
      | none=>simp [iR,Instr.sliceBounds,hb]
     | some l =>
      cases lo' with
      | none=>exact hl.elim
      | some v =>
       obtain ⟨k',rfl⟩:=hl;simp only [Option.getD_some]at h1 h2;have hb':=kW (P:=P) (k:=k') (c := .sliceB) w (y:=hv.toNat) (j:=l) ⟨h1,by omega⟩
       simp [iR,Instr.sliceBounds,hb,hb']
 | some q =>
  cases mx' with
  | none=>exact hm.elim
  | some v =>
   obtain ⟨km,rfl⟩:=hm;simp only [Option.getD_some]at h3 h4;cases hi with
   | none=>cases hno
   | some hv =>
    cases hi' with
    | none=>exact hh.elim
    | some v =>
     obtain ⟨k,rfl⟩:=hh;simp only [Option.getD_some]at h2 h3;have h0:0≤lo.getD 0:=h1
     have hm':∀ c,(Instr.sliceBound (.int km q) cap c).run P w = .ok q.toNat w:=fun c=>kW w ⟨by omega,by omega⟩;have hb:∀ c,(Instr.sliceBound (.int k hv) q.toNat c).run P w = .ok hv.toNat w:=fun c=>kW w ⟨by omega,by omega⟩
     cases lo with
     | none =>
      cases lo' with
      | some v=>exact hl.elim
      | none=>simp [iR,Instr.sliceBounds,hb,hm']
     | some l =>
      cases lo' with
      | none=>exact hl.elim
      | some v =>
       obtain ⟨k',rfl⟩:=hl;simp only [Option.getD_some]at h1 h2;have hb':∀ c,(Instr.sliceBound (.int k' l) hv.toNat c).run P w = .ok l.toNat w:=fun c=>kW w ⟨h1,by omega⟩
       simp [iR,Instr.sliceBounds,hb,hb',hm']
theorem ji {t e:Nat} (hT:TOK P T N) (hk:(T t).kind = .slice e) {b:Option Addr} {len cap:Nat} (hlc:len≤cap) {lo hi mx:Option Int} {lo' hi' mx':Option Value} (hl:IsB lo lo') (hh:IsB hi hi') (hm:IsB mx mx') (hno:(BH mx || !BH hi)=true) (hok:rO (slB lo hi mx len) len) (w:World) :
 (Instr.sliceAt t (.slice b len cap) lo' hi' mx').run P w = .ok (.slice (if iR mx cap=(lo.getD 0).toNat then b else b.map (·.add ((lo.getD 0).toNat*(T e).size))) ((hi.getD len).toNat - (lo.getD 0).toNat) (iR mx cap - (lo.getD 0).toNat)) w:=by
 have h1:=wP (P:=P) (b:=true) hlc hl hh hm hno hok w;simp [Instr.sliceAt,(hT.sli hk).2,Instr.slice,h1,hT.runSize (hT.slice t e hk)]
theorem ni {t k e:Nat} (hT:TOK P T N) (hk:(T t).kind = .array k e) {a:Addr} {lo hi mx:Option Int} {lo' hi' mx':Option Value} (hl:IsB lo lo') (hh:IsB hi hi') (hm:IsB mx mx') (hno:(BH mx || !BH hi)=true) (hok:rO (slB lo hi mx k) k) (w:World) :
 (Instr.sliceAt t (.pointer (some a)) lo' hi' mx').run P w = .ok (.slice (some (if iR mx k=(lo.getD 0).toNat then a else a.add ((lo.getD 0).toNat*(T e).size))) ((hi.getD k).toNat - (lo.getD 0).toNat) (iR mx k - (lo.getD 0).toNat)) w:=by
 have h1:=wP (P:=P) (b:=false) (Nat.le_refl k) hl hh hm hno hok w;simp [Instr.sliceAt,hT.arr hk,Instr.sureAddr,h1,hT.runSize (hT.array t k e hk).1]
theorem zG {lo hi mx:Option Int} (h:rO (slB lo hi mx ((0:Nat):Int)) ((0:Nat):Int)):(lo.getD 0).toNat=0∧(hi.getD ((0:Nat):Int)).toNat=0∧iR mx 0=0:=by
 have:=qg (Nat.le_refl 0) h;simp only [rO,slB]at h;omega
theorem Hq (hT:TOK P T N) {I:Imm} {ρ:Pl} {m:Id→Option Ob} {w:World} (hw:dR T N I ρ m w) {x:AV} {y:Value} {t:Nat} {r:AV×List Id×Prop} (hx:dI T N I ρ x y) {lo hi mx:Option Int} {lo' hi' mx':Option Value} (hl:IsB lo lo') (hh:IsB hi hi') (hm:IsB mx mx')
 (hno:(BH mx || !BH hi)=true) (h:slA T t lo hi mx m x=some r) (hc:r.2.2) (hnn:aj (nOf m x)) :
 ∃ u,(Instr.sliceAt t y lo' hi' mx').run P w = .ok u w∧gI T N I ρ r.1 u:=by
 unfold slA at h;split at h
 ·
   rename_i e full len g;split at h
   ·rename_i u hk;obtain ⟨hb,h⟩:=ak h;cases h;have e1:=Nat.eq_of_beq_eq_true hb
    subst e1;simp only at hc;obtain ⟨hok,hcap⟩:=hc;have hok':=hok
    simp only [rO,slB]at hok';obtain ⟨o1,o2,o3,o4⟩:=hok';rcases Rep.row_inv hx with ⟨⟨ad,rfl⟩,rfl,he⟩ | ⟨b,off,cap,segs,he,hlc,hcm,hfull,h1,h2,h3,h4,rfl⟩
    ·refine ⟨_,ji hT hk (Nat.le_refl 0) hl hh hm hno hok w,?_⟩;obtain ⟨z1,z2,z3⟩:=zG hok;have z4:((slB lo hi mx ((0:Nat):Int)).2.1 - (slB lo hi mx ((0:Nat):Int)).1).toNat=0:=by simp only [slB];omega
     simp only [z1,z2,z3,z4,Nat.sub_self,if_true];exact .one ⟨[_],.row0 he,rfl⟩
    ·refine ⟨_,ji hT hk hlc hl hh hm hno hok w,?_⟩;obtain ⟨hMle,hhM⟩:=qg hlc hok;simp only [slB];have hlen:((hi.getD (len:Int)) - (lo.getD 0)).toNat=(hi.getD (len:Int)).toNat - (lo.getD 0).toNat:=by omega
     rw [hlen];have hfl:LC hi mx full=true→iR mx cap - (lo.getD 0).toNat=(hi.getD (len:Int)).toNat - (lo.getD 0).toNat:=by
      intro hf;cases mx with
      | some q=>simp only [capEq]at hcap;simp only [iR,hcap]
      | none =>
       cases hi with
       | some _=>cases hf
       | none =>
        simp only [LC]at hf;simp [iR,hfull hf]
     by_cases hMl:iR mx cap=(lo.getD 0).toNat
     ·rw [if_pos hMl];exact .one ⟨[_],.row b off _ (fun j=>segs ((lo.getD 0).toNat+j)) he (by omega) (by omega) hfl (fun i hi'=>by omega) (fun i hi'=>by omega) (fun i hi'=>by omega) (fun i hi'=>by omega),rfl⟩
     ·rw [if_neg hMl];simp only [Option.map_some,fA];refine .one ⟨[_],.row b (off+(lo.getD 0).toNat*(T e).size) _ (fun j=>segs ((lo.getD 0).toNat+j)) he (by omega) (by omega) hfl (fun i hi'=>h1 _ (by omega)) (fun i hi'=>h2 _ (by omega)) (fun i hi'=>h3 _ (by omega)) (fun i hi' o ho=>?_),rfl⟩;rw [← h4 _ (by omega) o ho];congr 1;rw [Nat.add_mul];omega
   ·cases h
 ·
   rename_i id n i len cap;split at h
   ·rename_i B u hmB hk;have hb:=(ak h).1
    replace h:=(ak h).2;have e2:=Nat.eq_of_beq_eq_true hb
    have e1:B.n=n:=by simpa [nOf,nC,hmB,aj]using hnn
    have key:∀ (cap':Option Nat),rO (slB lo hi mx len) len→(lo.getD 0=0∨(mx=none∧lo.getD 0<(len:Int))) →
     (∀ c:Nat,(mx=none→(cap'=none→cap=none) ∧ ∀ k,cap'=some k → ∃ c0,cap=some c0∧k=c0 - (lo.getD 0).toNat)∧(∀ q:Int,mx=some q→cap'=some (q.toNat - (lo.getD 0).toNat))) →
     ∃ u,(Instr.sliceAt t y lo' hi' mx').run P w = .ok u w∧gI T N I ρ (.own id n (i+(lo.getD 0).toNat) ((hi.getD len).toNat - (lo.getD 0).toNat) cap') u:=by
     intro cap' hok hlo hcap';have hok':=hok
     simp only [rO,slB]at hok';obtain ⟨o1,o2,o3,o4⟩:=hok';rcases Rep.own_inv hx with ⟨rfl,rfl,rfl,rfl⟩ | ⟨q,hq,hn,hx⟩
     ·refine ⟨_,ji hT hk (Nat.le_refl 0) hl hh hm hno hok w,?_⟩;obtain ⟨z1,z2,z3⟩:=zG hok;simp only [z1,z2,z3,Nat.sub_self,if_true,Nat.add_zero];exact .one ⟨[_],.own0,rfl⟩
     ·obtain ⟨q',cs,c1,c2,c3,c4,_⟩:=hw.cellsAt hmB hq;rw [hq]at c1;cases c1;obtain ⟨c,rfl,g1,g2,g3,g4,g5,g6⟩:=hx (by rw [c3,e1]);obtain ⟨hMle,hhM⟩:=qg g1 hok;refine ⟨_,ji hT hk g1 hl hh hm hno hok w,?_⟩;have haddr:(if iR mx c=(lo.getD 0).toNat then some (⟨q.b,i*(T q.ty).size,none⟩:Addr)else (some (⟨q.b,i*(T q.ty).size,none⟩:Addr)).map (·.add ((lo.getD 0).toNat*(T u).size)))=some ⟨q.b,(i+(lo.getD 0).toNat)*(T q.ty).size,none⟩:=by
       have hz:u=q.ty:=by rw [c2,e2]
       subst hz;split
       ·rename_i hr;rcases hlo with h0 | ⟨h0,h1⟩
        ·simp [h0]
        ·subst h0;simp only [iR]at hr;omega
       ·simp only [Option.map_some,fA,Nat.add_mul]
      rw [haddr];refine .one ⟨[_],.own q hq hn rfl (fun _=>⟨iR mx c - (lo.getD 0).toNat,rfl,by omega,by omega,by omega,?_,?_,?_⟩),rfl⟩
      ·refine Nat.le_trans (Nat.mul_le_mul_right _ ?_) g4;omega
      ·intro hc0;obtain ⟨k1,k2⟩:=hcap' 0;cases mx with
       | some q=>rw [k2 q rfl]at hc0;cases hc0
       | none =>
        have:=g5 ((k1 rfl).1 hc0);simp only [iR]at hhM ⊢;rw [← this];congr 1;omega
      ·intro k hk0;obtain ⟨k1,k2⟩:=hcap' 0;cases mx with
       | some q=>rw [k2 q rfl]at hk0;cases hk0;rfl
       | none =>
        obtain ⟨c0,h1,h2⟩:=(k1 rfl).2 k hk0;simp only [iR];rw [g6 c0 h1,h2]
    split at h
    ·cases h;obtain ⟨u',h1,h2⟩:=key cap hc (.inl rfl) (fun _=>⟨fun _=>⟨fun h=>h,fun k hk=>⟨k,hk,by simp⟩⟩,fun q h=>by cases h⟩);exact ⟨u',h1,by simpa using h2⟩
    ·rename_i q;cases h;obtain ⟨u',h1,h2⟩:=key (some q.toNat) hc (.inl rfl) (fun _=>⟨fun h=>(by cases h),fun q' h=>by cases h;simp⟩)
     exact ⟨u',h1,by simpa using h2⟩
    ·rename_i l;cases h;obtain ⟨u',h1,h2⟩:=key (cap.map (· - l.toNat)) hc.1 (.inr ⟨rfl,by simpa using hc.2⟩) (fun _=>⟨fun _=>⟨fun h=>by simpa using h,fun k hk=>by
      simp only [Option.map_eq_some_iff]at hk;obtain ⟨c0,h1,h2⟩:=hk;exact ⟨c0,h1,by simp [← h2]⟩⟩,fun q h=>by cases h⟩)
     exact ⟨u',h1,by simpa [Nat.add_comm l.toNat i]using h2⟩
    ·cases h
   ·cases h
 ·
   rename_i id n i p;split at h
   ·rename_i B k e hmB hk;obtain ⟨hb,h⟩:=ak h;cases h;have e1:B.n=n:=by simpa [nOf,nC,hmB,aj]using hnn
    have e2:=nS hb;obtain ⟨q,hq,hn,hx⟩:=Rep.ptr_inv hx;obtain ⟨q',cs,c1,c2,c3,c4,_⟩:=hw.cellsAt hmB hq;rw [hq]at c1;cases c1;obtain ⟨hi',hpi,rfl⟩:=hx (by rw [c3,e1]);obtain ⟨hok,hlo,hk63⟩:=hc;refine ⟨_,ni hT hk hl hh hm hno hok w,?_⟩;obtain ⟨hMle,hhM⟩:=qg (Nat.le_refl k) hok;have hok':=hok
    simp only [rO,slB]at hok' hlo ⊢;obtain ⟨o1,o2,o3,o4⟩:=hok';have hroom:iR mx k=(mx.getD (k:Int)).toNat:=by cases mx <;> simp [iR]
    have hlen:((hi.getD (k:Int)) - (lo.getD 0)).toNat=(hi.getD (k:Int)).toNat - (lo.getD 0).toNat:=by omega
    rw [hlen,← hroom];have haddr:(if iR mx k=(lo.getD 0).toNat then (⟨q.b,i*(T q.ty).size+aF T q.ty p,none⟩:Addr)else (⟨q.b,i*(T q.ty).size+aF T q.ty p,none⟩:Addr).add ((lo.getD 0).toNat*(T e).size))=⟨q.b,i*(T q.ty).size+aF T q.ty p+(lo.getD 0).toNat*(T e).size,none⟩:=by
     split
     ·rename_i hr;rcases hlo with h0 | h0
      ·omega
      ·simp [h0]
     ·simp only [fA]
    rw [haddr];exact .one ⟨[_],.arr q hq hn rfl (fun _=>⟨hi',t,k,e,by rw [c2];exact e2,hpi,hk,by omega,by omega,by omega,rfl⟩),rfl⟩
   ·cases h
 ·
   rename_i u x';split at h
   ·rename_i k e hk;obtain ⟨hb,h⟩:=ak h;cases h;have e1:=Nat.eq_of_beq_eq_true hb
    subst e1;obtain ⟨b,off,seg,ht,k1,k2,k3,k4,rfl⟩:=Rep.rp_inv hx;obtain ⟨hok,hk63⟩:=hc;refine ⟨_,ni hT hk hl hh hm hno hok w,?_⟩;obtain ⟨hMle,hhM⟩:=qg (Nat.le_refl k) hok;have hok':=hok
    simp only [rO,slB]at hok' ⊢;obtain ⟨o1,o2,o3,o4⟩:=hok';have hlen:((hi.getD (k:Int)) - (lo.getD 0)).toNat=(hi.getD (k:Int)).toNat - (lo.getD 0).toNat:=by omega
    rw [hlen];have hfl:(BH hi&&BH mx)=true→iR mx k - (lo.getD 0).toNat=(hi.getD (k:Int)).toNat - (lo.getD 0).toNat:=by
     intro hf;cases hi with
     | some _=>cases hf
     | none =>
      cases mx with
      | some _=>cases hf
      | none=>simp [iR]
    have hel:∀ j,j<k → ∃ sg,Rep T N I iI (x'.at [j]) sg∧fit T e (x'.at [j])=true∧sg.length=(T e).size ∧ ∀ o,o<(T e).size→seg[j*(T e).size+o]? = sg[o]? := by
     intro j hj;have hpt:aJ T u [j]=some e:=by simp [aJ,hk]
     have hpi:pathIn T u [j]:=by simp [pathIn,hk,hj]
     have hpo:aF T u [j]=j*(T e).size:=by simp [aF,hk]
     obtain ⟨sg,r1,r2,r3,r4⟩:=k1.at [j] k2 k3 hpt hpi;exact ⟨sg,r1,r2,r3,fun o ho=>by rw [← r4 o ho,hpo]⟩
    have hex:∀ j,∃ sg,j<k→Rep T N I iI (x'.at [j]) sg∧fit T e (x'.at [j])=true∧sg.length=(T e).size ∧ ∀ o,o<(T e).size→seg[j*(T e).size+o]? = sg[o]? := by
     intro j;by_cases hj:j<k
     ·obtain ⟨sg,h⟩:=hel j hj;exact ⟨sg,fun _=>h⟩
     ·exact ⟨[],fun h=>absurd h hj⟩
    have hsel:=fun j=>Classical.choose_spec (hex j);have hN:=(hT.array u k e hk).1
    have hsz:seg.length=k*(T e).size:=by rw [k3];exact (hT.array u k e hk).2
    by_cases hMl:iR mx k=(lo.getD 0).toNat
    ·rw [if_pos hMl];exact .one ⟨[_],.row b off _ (fun j=>[]) hN (by omega) (by omega) hfl (fun i hi'=>by omega) (fun i hi'=>by omega) (fun i hi'=>by omega) (fun i hi'=>by omega),rfl⟩
    ·rw [if_neg hMl,fA];refine .one ⟨[_],.row b (off+(lo.getD 0).toNat*(T e).size) _ (fun j=>Classical.choose (hex ((lo.getD 0).toNat+j))) hN (by omega) (by omega) hfl (fun j hj=>(hsel _ (by omega)).1) (fun j hj=>(hsel _ (by omega)).2.1) (fun j hj=>(hsel _ (by omega)).2.2.1) (fun j hj o ho=>?_),rfl⟩;have h4:=(hsel ((lo.getD 0).toNat+j) (by omega)).2.2.2 o ho
     rw [← h4];have h5:((lo.getD 0).toNat+j+1)*(T e).size≤k*(T e).size:=Nat.mul_le_mul_right _ (by omega)
     rw [Nat.succ_mul,← hsz]at h5;have h6:=k4 (((lo.getD 0).toNat+j)*(T e).size+o) (by rw [← k3];omega)
     rw [← h6];congr 1;rw [Nat.add_mul];omega
   ·cases h
 ·cases h
end
section
variable {P:Program} {T:Nat→TI} {N:Nat}
def RQ (P:Program) (sz n:Nat) (news:List Value) (y:Value) (w:World):Prop :=
 (Builtin.lenOf y).run P w = .ok n w ∧ ∀ k,k≤n→(Builtin.firstCells sz k y).run P w = .ok (news.take (k*sz)).toArray w
theorem GZ {a:Addr} {n c sz:Nat} {y:Value} {news:List Value} {w:World} (h:MV a n c y) (hl:news.length=n*sz) (hn:∀ (j:Nat) (u:Value),news[j]? = some u→w.cell? (a.add j)=some u):RQ P sz n news y w:=by
 rcases h with rfl | ⟨rfl,rfl⟩
 ·refine ⟨by simp [Builtin.lenOf],fun k hk=>?_⟩;refine run_firstCells_some (P:=P) w sz k a n c (news.take (k*sz)) ?_ (fun j v hv=>hn j v ?_)
  ·rw [List.length_take,hl];exact Nat.min_eq_left (Nat.mul_le_mul_right _ hk)
  ·rw [List.getElem?_take]at hv;split at hv
   ·exact hv
   ·cases hv
 ·refine ⟨by simp [Builtin.lenOf],fun k hk=>?_⟩;have:k=0:=by omega
  subst this;simp [run_firstCells_none]
theorem Fj (hT:TOK P T N) {I:Imm} {ρ:Pl} {m:Id→Option Ob} {w:World} (hw:dR T N I ρ m w) {x:AV} {y:Value} {e:Nat} (he:0<(T e).size) {r:Nat×(Nat→AV)×List Id} (hx:dI T N I ρ x y) (h:Na T m e x=some r) (hnn:aj (nOf m x)) :
 ∃ news:List Value,RQ P (T e).size r.1 news y w∧news.length=r.1*(T e).size∧(∀ u∈news,u.oneCell'=true) ∧
  ∀ i,i<r.1 → ∃ seg,Rep T N I ρ (r.2.1 i) seg∧fit T e (r.2.1 i)=true∧seg.length=(T e).size ∧ ∀ o,o<(T e).size→news[i*(T e).size+o]? = seg[o]? := by
 unfold Na at h;split at h
 ·rename_i id n i p lo len hi;split at h
  ·rename_i B hm;obtain ⟨hb,h⟩:=ak h;cases h;have he':=nS hb
   have e1:B.n=n:=by simpa [nOf,nC,hm,aj]using hnn
   obtain ⟨q,hq,hn,hx⟩:=Rep.arr_inv hx;obtain ⟨q',cs,c1,c2,c3,c4,c5,c6,c7,c8,c9,c10⟩:=hw.cellsAt hm hq;rw [hq]at c1;cases c1;obtain ⟨hi',ta,ka,ea,g1,g2,g3,g4,g5,g6,rfl⟩:=hx (by rw [c3,e1]);rw [← c2,gZ p g1]at he';have hea:ea=e:=by simpa [aJ,g3]using he'
   subst hea;have hex:∀ k,∃ seg,k<len→Rep T N I ρ (((B.get i).at p).at [lo+k]) seg∧fit T ea (((B.get i).at p).at [lo+k])=true∧seg.length=(T ea).size ∧
    ∀ o,o<(T ea).size→w.cell? ⟨q.b,i*(T q.ty).size+aF T q.ty p+lo*(T ea).size+(k*(T ea).size+o),none⟩=seg[o]? := by
    intro k;by_cases hk:k<len
    ·obtain ⟨seg,s1,s2,s3,s4⟩:=ptr_cells hw hm hq (i:=i) (p:=p++[lo+k]) (t:=ea) (by rw [e1];exact hi') (by rw [← c2,gZ p g1];simp [aJ,g3]) (by rw [← c2];exact iU p g1 g2 (by simp [pathIn,g3];omega));rw [yX]at s1 s2;refine ⟨seg,fun _=>⟨s1,s2,s3,fun o ho=>?_⟩⟩;rw [← s4 o ho,ig p g1];congr 2;simp only [aF,g3,Nat.add_mul];omega
    ·exact ⟨[],fun h=>absurd h hk⟩
   have hsel:=fun k=>Classical.choose_spec (hex k);generalize hsg:(fun k=>Classical.choose (hex k))=segs at hsel;have hseg:∀ k,k<len→Rep T N I ρ (((B.get i).at p).at [lo+k]) (segs k)∧fit T ea (((B.get i).at p).at [lo+k])=true∧(segs k).length=(T ea).size ∧
    ∀ o,o<(T ea).size→w.cell? ⟨q.b,i*(T q.ty).size+aF T q.ty p+lo*(T ea).size+(k*(T ea).size+o),none⟩=(segs k)[o]? := by
    intro k hk;have h1:=hsel k hk
    rw [← hsg];exact h1
   have hsz:∀ k,k<len→(segs k).length=(T ea).size:=fun k hk=>(hseg k hk).2.2.1;refine ⟨(List.range len).flatMap segs,GZ (.inl rfl) (dK segs hsz) ?_,dK segs hsz,?_,fun k hk=>⟨segs k,(hseg k hk).1,(hseg k hk).2.1,hsz k hk,fun o ho=>dW segs hsz hk ho⟩⟩
   ·intro j v hv;have hj:j<len*(T ea).size:=by rw [← dK segs hsz];exact (List.getElem?_eq_some_iff.1 hv).1
    rw [iC segs he hsz hj]at hv;rw [fA];have hk:=(hseg (j / (T ea).size) (div_lt he hj)).2.2.2 (j % (T ea).size) (Nat.mod_lt _ he)
    rw [hv,show j / (T ea).size*(T ea).size+j % (T ea).size=j from by rw [Nat.mul_comm];exact Nat.div_add_mod j _]at hk;exact hk
   ·intro v hv;simp only [List.mem_flatMap,List.mem_range]at hv;obtain ⟨k,hk,hv⟩:=hv;exact (hseg k hk).1.cells_one v hv
  ·cases h
 ·obtain ⟨a,c,news,h1,h2,h3,h4,h5,h6⟩:=oW (P:=P) hT hw he hx h hnn;exact ⟨news,GZ h1 h2 h3,h2,h4,h6⟩
theorem BL (hT:TOK P T N) {I:Imm} {ρ:Pl} {m:Id→Option Ob} {w:World} (hw:dR T N I ρ m w) {id:Id} {B:Blk} {i:Nat} {p:List Nat} {t:Nat} {y:AV} {q:Place} {sy:List Value} {cs:Array Value}
 (hm:m id=some (.cells B)) (hq:ρ id=some q) (hi:i<B.n) (hpt:aJ T B.ty p=some t) (hpi:pathIn T B.ty p) (hfz:B.fz≤i)
 (hy:Rep T N I ρ y sy) (hfy:fit T t y=true) (hly:sy.length=(T t).size) (hcs:w.heap[q.b]? = some (.cells cs B.ty (0,0))) :
 ∃ I' ρ',Ev I ρ w I' ρ' (w.setRow q.b (cs.toList.take (i*(T B.ty).size+aF T B.ty p)++sy++cs.toList.drop (i*(T B.ty).size+aF T B.ty p+sy.length)).toArray) ∧
  dR T N I' ρ' (vV m id (.cells { B with get:=fun j=>bif Nat.beq j i then (B.get i).put p y else B.get j})) (w.setRow q.b (cs.toList.take (i*(T B.ty).size+aF T B.ty p)++sy++cs.toList.drop (i*(T B.ty).size+aF T B.ty p+sy.length)).toArray):=by
 obtain ⟨nx,w',I',ρ',h1,_,h3,h4⟩:=Bo (P:=P) (o:=⟨none,.move (.const undef),0,"",#[],none⟩) (c:=none) (f:=[]) hT hw hm hq hi hpt hpi hfz hy hfy hly rfl
  (run:=fun _ => .ok .skip (w.setRow q.b (cs.toList.take (i*(T B.ty).size+aF T B.ty p)++sy++cs.toList.drop (i*(T B.ty).size+aF T B.ty p+sy.length)).toArray)) (fun ds hds _=>by rw [hcs]at hds;cases hds;rfl)
 simp only [Result.ok.injEq]at h1;obtain ⟨_,rfl⟩:=h1;exact ⟨I',ρ',h3,by simpa [je]using h4⟩
theorem Hf {es lo cnt k A:Nat} (hes:0<es) {cs news:List Value} {segs olds:Nat→List Value} (hA:A+k*es≤cs.length) (hk:lo+cnt≤k) (hnl:cnt*es≤news.length)
 (hl:∀ j,j<k→(segs j).length=es) (hnew:∀ j,j<k→lo≤j→j<lo+cnt → ∀ o,o<es→(segs j)[o]? = news[(j - lo)*es+o]?) (hold:∀ j,j<k→(j<lo∨lo+cnt≤j) → ∀ o,o<es→(segs j)[o]? = cs[A+(j*es+o)]?) :
 cs.take A++(List.range k).flatMap segs++cs.drop (A+((List.range k).flatMap segs).length)=cs.take (A+lo*es)++news.take (cnt*es)++cs.drop (A+lo*es+(news.take (cnt*es)).length):=by
 have hsl:=dK segs hl;have hlk:(lo+cnt)*es≤k*es:=Nat.mul_le_mul_right _ hk
 rw [Nat.add_mul]at hlk;have hnt:(news.take (cnt*es)).length=cnt*es:=by rw [List.length_take];omega
 have ht1:(cs.take A).length=A:=by rw [List.length_take];omega
 have ht2:(cs.take (A+lo*es)).length=A+lo*es:=by rw [List.length_take];omega
 apply List.ext_getElem?;intro z;rw [hsl,hnt];rcases Nat.lt_or_ge z A with hz | hz
 ·rw [List.append_assoc,List.getElem?_append_left (by omega),List.append_assoc,List.getElem?_append_left (by omega),List.getElem?_take,List.getElem?_take,if_pos hz,if_pos (by omega)]
 ·rcases Nat.lt_or_ge z (A+k*es)with hz2 | hz2
  ·rw [List.append_assoc,List.getElem?_append_right (by omega),ht1,List.getElem?_append_left (by rw [hsl];omega)];have hjk:(z - A) / es<k:=div_lt hes (by omega)
   have ho:(z - A) % es<es:=Nat.mod_lt _ hes;have hd:(z - A) / es*es+(z - A) % es=z - A:=by rw [Nat.mul_comm];exact Nat.div_add_mod _ _
   rw [iC segs hes hl (by omega)];by_cases hin:lo≤(z - A) / es∧(z - A) / es<lo+cnt
   ·have m1:lo*es≤(z - A) / es*es:=Nat.mul_le_mul_right _ hin.1;have m2:((z - A) / es+1)*es≤(lo+cnt)*es:=Nat.mul_le_mul_right _ hin.2
    rw [Nat.add_mul,Nat.add_mul,Nat.one_mul]at m2;rw [hnew _ hjk hin.1 hin.2 _ ho,List.append_assoc,List.getElem?_append_right (by omega),ht2,List.getElem?_append_left (by omega),List.getElem?_take,if_pos (by omega)];congr 1;rw [Nat.sub_mul];omega
   ·have hout:(z - A) / es<lo∨lo+cnt≤(z - A) / es:=by omega
    rw [hold _ hjk hout _ ho];rcases hout with h | h
    ·have m1:((z - A) / es+1)*es≤lo*es:=Nat.mul_le_mul_right _ h;rw [Nat.add_mul,Nat.one_mul]at m1;rw [List.append_assoc,List.getElem?_append_left (by omega),List.getElem?_take,if_pos (by omega)];congr 1;omega
    ·have m1:(lo+cnt)*es≤(z - A) / es*es:=Nat.mul_le_mul_right _ h;rw [Nat.add_mul]at m1;rw [List.getElem?_append_right (by rw [List.length_append];omega),List.length_append,ht2,hnt,List.getElem?_drop];congr 1;omega
  ·rw [List.getElem?_append_right (by rw [List.length_append];omega),List.length_append,ht1,hsl,List.getElem?_drop,List.getElem?_append_right (by rw [List.length_append];omega),List.length_append,ht2,hnt,List.getElem?_drop];congr 1;omega
theorem Gp (hT:TOK P T N) {I:Imm} {ρ:Pl} {m:Id→Option Ob} {w:World} (hw:dR T N I ρ m w) {x x':AV} {y y':Value} {t e:Nat} {ty:TypeId} {q:Nat×(Nat→AV)×List Id} {r:Nat×List (Id×Ob)×List Id×Prop} (hk:(T t).kind = .slice e)
 (hx:dI T N I ρ x y) (hx':dI T N I ρ x' y') (hq:Na T m e x'=some q) (h:Pg T m e q x=some r) (hc:r.2.2.2) (hnn:aj (nOf m x)) (hnn':aj (nOf m x')) :
 ∃ w' I' ρ',(Builtin.copy_ #[t,t] ty #[y,y']).run P w = .ok (.int .i64 r.1) w'∧Ev I ρ w I' ρ' w'∧dR T N I' ρ' (je m r.2.1) w':=by
 have he:=hT.slice t e hk;have hpos:=hT.size_pos he
 obtain ⟨news,⟨n1,n2⟩,n3,n4,n5⟩:=Fj (P:=P) hT hw hpos hx' hq hnn';unfold Pg at h;split at h
 ·rename_i id n i p lo len hi;split at h
  ·rename_i B hm;simp only [Option.bind_eq_some_iff]at h;obtain ⟨ta,hta,h⟩:=h;split at h
   ·rename_i k e' hka;obtain ⟨hb,h⟩:=ak h;cases h;have ee:=Nat.eq_of_beq_eq_true hb
    subst ee;have e1:B.n=n:=by simpa [nOf,nC,hm,aj]using hnn
    obtain ⟨pl,hp,hn,hx⟩:=Rep.arr_inv hx;obtain ⟨p',cs,c1,c2,c3,c4,c5,c6,c7,c8,c9,c10⟩:=hw.cellsAt hm hp;rw [hp]at c1;cases c1;obtain ⟨hi',ta',ka',ea',g1,g2,g3,g4,g5,g6,rfl⟩:=hx (by rw [c3,e1]);rw [c2,hta]at g1;cases g1;rw [hka]at g3;cases g3;rw [c2]at g2;generalize hcnt:Nat.min q.1 len=cnt;have hcl:cnt≤len:=by rw [← hcnt];exact Nat.min_le_right _ _
    have hcq:cnt≤q.1:=by rw [← hcnt];exact Nat.min_le_left _ _
    have hfz:B.fz≤i:=hc;have hiB:i<B.n:=by omega
    obtain ⟨sg,r1,r2,r3,r4⟩:=c8 i hiB;have hle:=iD r1 r2 r3 hta g2
    have hasz:=(hT.array ta k e' hka).2;have hbase:(i+1)*(T B.ty).size≤B.n*(T B.ty).size:=Nat.mul_le_mul_right _ hiB
    rw [Nat.succ_mul]at hbase;have hold:∀ j,∃ seg,j<k→Rep T N I ρ (((B.get i).at p).at [j]) seg∧fit T e' (((B.get i).at p).at [j])=true∧seg.length=(T e').size ∧
     ∀ o,o<(T e').size→cs.toList[i*(T B.ty).size+aF T B.ty p+(j*(T e').size+o)]? = seg[o]? := by
     intro j;by_cases hj:j<k
     ·obtain ⟨seg,s1,s2,s3,s4⟩:=ptr_cells hw hm hp (i:=i) (p:=p++[j]) (t:=e') hiB (by rw [gZ p hta];simp [aJ,hka]) (iU p hta g2 (by simp [pathIn,hka];omega));rw [yX]at s1 s2;refine ⟨seg,fun _=>⟨s1,s2,s3,fun o ho=>?_⟩⟩;rw [← s4 o ho,c2,ig p hta];simp only [aF,hka,Nat.add_zero,World.cell?,c5,Option.isSome_none,Bool.false_eq_true,if_false,Array.getElem?_toList];congr 1;omega
     ·exact ⟨[],fun h=>absurd h hj⟩
    have hnewx:∀ j,∃ seg,j<q.1→Rep T N I ρ (q.2.1 j) seg∧fit T e' (q.2.1 j)=true∧seg.length=(T e').size ∧ ∀ o,o<(T e').size→news[j*(T e').size+o]? = seg[o]? := by
     intro j;by_cases hj:j<q.1
     ·obtain ⟨seg,h⟩:=n5 j hj;exact ⟨seg,fun _=>h⟩
     ·exact ⟨[],fun h=>absurd h hj⟩
    have ho:=fun j=>Classical.choose_spec (hold j);have hn':=fun j=>Classical.choose_spec (hnewx j)
    have hblt:∀ a b:Nat,(Nat.blt a b=true)=(a<b):=fun a b=>by simp [Nat.blt_eq]
    have hseg:∀ j,j<k → ∃ seg,Rep T N I ρ (bif Nat.ble lo j&&Nat.blt j (lo+cnt)then q.2.1 (j - lo)else ((B.get i).at p).at [j]) seg∧fit T e' (bif Nat.ble lo j&&Nat.blt j (lo+cnt)then q.2.1 (j - lo)else ((B.get i).at p).at [j])=true∧seg.length=(T e').size ∧
     (lo≤j→j<lo+cnt → ∀ o,o<(T e').size→seg[o]? = news[(j - lo)*(T e').size+o]?)∧((j<lo∨lo+cnt≤j) → ∀ o,o<(T e').size→seg[o]? = cs.toList[i*(T B.ty).size+aF T B.ty p+(j*(T e').size+o)]?):=by
     intro j hj;by_cases hin:lo≤j∧j<lo+cnt
     ·have hbb:(Nat.ble lo j&&Nat.blt j (lo+cnt))=true:=by simp [hin.1,hin.2,hblt,Nat.blt_eq]
      rw [hbb];obtain ⟨a1,a2,a3,a4⟩:=hn' (j - lo) (by omega);exact ⟨_,a1,a2,a3,fun _ _ o ho=>(a4 o ho).symm,fun h=>by omega⟩
     ·have hbb:(Nat.ble lo j&&Nat.blt j (lo+cnt))=false:=by
       cases hz:(Nat.ble lo j&&Nat.blt j (lo+cnt))with
       | false=>rfl
       | true=>simp [Nat.blt_eq]at hz;exact absurd hz hin
      rw [hbb];obtain ⟨a1,a2,a3,a4⟩:=ho j hj;exact ⟨_,a1,a2,a3,fun h1 h2=>absurd ⟨h1,h2⟩ hin,fun _ o ho=>(a4 o ho).symm⟩
    have hex:∀ j,∃ seg,j<k→Rep T N I ρ (bif Nat.ble lo j&&Nat.blt j (lo+cnt)then q.2.1 (j - lo)else ((B.get i).at p).at [j]) seg∧fit T e' (bif Nat.ble lo j&&Nat.blt j (lo+cnt)then q.2.1 (j - lo)else ((B.get i).at p).at [j])=true∧seg.length=(T e').size ∧
     (lo≤j→j<lo+cnt → ∀ o,o<(T e').size→seg[o]? = news[(j - lo)*(T e').size+o]?)∧((j<lo∨lo+cnt≤j) → ∀ o,o<(T e').size→seg[o]? = cs.toList[i*(T B.ty).size+aF T B.ty p+(j*(T e').size+o)]?):=by
     intro j;by_cases hj:j<k
     ·obtain ⟨seg,h⟩:=hseg j hj;exact ⟨seg,fun _=>h⟩
     ·exact ⟨[],fun h=>absurd h hj⟩
    have hs:=fun j=>Classical.choose_spec (hex j);generalize hsg:(fun j=>Classical.choose (hex j))=segs at hs;have hs':∀ j,j<k→Rep T N I ρ (bif Nat.ble lo j&&Nat.blt j (lo+cnt)then q.2.1 (j - lo)else ((B.get i).at p).at [j]) (segs j)∧fit T e' (bif Nat.ble lo j&&Nat.blt j (lo+cnt)then q.2.1 (j - lo)else ((B.get i).at p).at [j])=true∧(segs j).length=(T e').size ∧
     (lo≤j→j<lo+cnt → ∀ o,o<(T e').size→(segs j)[o]? = news[(j - lo)*(T e').size+o]?)∧((j<lo∨lo+cnt≤j) → ∀ o,o<(T e').size→(segs j)[o]? = cs.toList[i*(T B.ty).size+aF T B.ty p+(j*(T e').size+o)]?):=by
     intro j hj;have h1:=hs j hj
     rw [← hsg];exact h1
    have hrep:Rep T N I ρ (.agg ta k fun j=>bif Nat.ble lo j&&Nat.blt j (lo+cnt)then q.2.1 (j - lo)else ((B.get i).at p).at [j]) ((List.range k).flatMap segs) :=
     .array e' segs hka (hT.pathLt p c4 hta) (fun j hj=>(hs' j hj).1) (fun j hj=>(hs' j hj).2.1) (fun j hj=>(hs' j hj).2.2.1)
    have hsl:=dK segs (fun j hj=>(hs' j hj).2.2.1);obtain ⟨I',ρ',z1,z2⟩:=BL (P:=P) hT hw hm hp hiB hta g2 hfz hrep (by simp [fit,hka,TK.isAgg]) (by rw [hsl,hasz]) c5;have hcap:lo+cnt≤k:=by omega
    have heq:=Hf (A:=i*(T B.ty).size+aF T B.ty p) hpos (cs:=cs.toList) (news:=news) (lo:=lo) (cnt:=cnt) (k:=k) (segs:=segs) (olds:=segs) (by rw [Array.length_toList,← hasz];omega) hcap (by rw [n3];exact Nat.mul_le_mul_right _ hcq)
     (fun j hj=>(hs' j hj).2.2.1) (fun j hj h1 h2=>(hs' j hj).2.2.2.1 h1 h2) (fun j hj h1=>(hs' j hj).2.2.2.2 h1)
    rw [heq]at z1 z2;refine ⟨_,I',ρ',?_,z1,by simpa [je]using z2⟩;have hfc:=n2 cnt hcq
    have hfit:i*(T B.ty).size+aF T B.ty p+lo*(T e').size+(news.take (cnt*(T e').size)).length≤cs.size:=by
     have hnt:(news.take (cnt*(T e').size)).length=cnt*(T e').size:=by rw [List.length_take,n3];exact Nat.min_eq_left (Nat.mul_le_mul_right _ hcq)
     have hlk:(lo+cnt)*(T e').size≤k*(T e').size:=Nat.mul_le_mul_right _ hcap;rw [Nat.add_mul]at hlk;omega
    have hst:=run_storeCells_at P pl.b (i*(T B.ty).size+aF T B.ty p+lo*(T e').size) B.ty (news.take (cnt*(T e').size)) 0 cs w c5 (by simpa using hfit) (fun v hv=>n4 v (List.mem_of_mem_take hv));simp only [Nat.add_zero]at hst;have hc2:i*(T pl.ty).size+aF T pl.ty p=i*(T B.ty).size+aF T B.ty p:=by rw [c2]
    simp only [hc2];simp [Builtin.copy_,(hT.sli hk).2,n1,hcnt,hT.runSize he,hfc,hst,goInt]
   ·cases h
  ·cases h
 ·cases h
theorem zI (hT:TOK P T N) {I:Imm} {ρ:Pl} {m:Id→Option Ob} {w w':World} (hw:dR T N I ρ m w) {id:Id} {B:Blk} {i len:Nat} {h:Nat→AV} {q:Place} {cs cs':Array Value}
 (hm:m id=some (.cells B)) (hq:ρ id=some q) (hi:i+len≤B.n) (hfz:B.fz≤i) (hcs:w.heap[q.b]? = some (.cells cs B.ty (0,0))) (hsz:cs'.size=cs.size)
 (hh':w'.heap[q.b]? = some (.cells cs' B.ty (0,0))) (hoth:∀ b,b<w.heap.size→b≠q.b→w'.heap[b]? = w.heap[b]?) (hs:w.heap.size≤w'.heap.size) (h1:w'.os=w.os) (h2:w'.output=w.output) (h3:(w'.tape=w.tape∧w.drawn≤w'.drawn))
 (hin:∀ j,j<len → ∃ seg,Rep T N I ρ (h j) seg∧fit T B.ty (h j)=true∧seg.length=(T B.ty).size ∧ ∀ o,o<(T B.ty).size→cs'[(i+j)*(T B.ty).size+o]? = seg[o]?)
 (hout:∀ k,k<i*(T B.ty).size∨(i+len)*(T B.ty).size≤k→cs'[k]? = cs[k]?) :
 Ev I ρ w I ρ w'∧dR T N I ρ (vV m id (.cells { B with get:=fun j=>bif Nat.ble i j&&Nat.blt j (i+len)then h (j - i)else B.get j})) w':=by
 obtain ⟨q',cs0,c1,c2,c3,c4,c5,c6,c7,c8,c9,c10⟩:=hw.cellsAt hm hq;rw [hq]at c1;cases c1;rw [hcs]at c5;cases c5;have hplace:({ q with n:=({ B with get:=fun j=>bif Nat.ble i j&&Nat.blt j (i+len)then h (j - i)else B.get j}:Blk).n}:Place)=q:=by cases q;simp_all
 have hset:mZ ρ id q=ρ:=by
  funext a;by_cases ha:a=id
  ·subst ha;rw [aU,hq]
  ·rw [aZ _ _ ha]
 have hch:=dR.change (B':={ B with get:=fun j=>bif Nat.ble i j&&Nat.blt j (i+len)then h (j - i)else B.get j}) (w':=w') hw hm hq hcs rfl rfl (Nat.le_refl _) hsz (by rw [hsz,c6];exact c7) hh' hoth
  (
   fun j hj=>by
   have:B.fz*(T B.ty).size≤i*(T B.ty).size:=Nat.mul_le_mul_right _ hfz;exact hout j (.inl (by omega)))
  (
   fun j hj=>by
   rw [hplace,hset];simp only at hj;by_cases hin':i≤j∧j<i+len
   ·have hbb:(Nat.ble i j&&Nat.blt j (i+len))=true:=by simp [hin'.1,hin'.2,Nat.blt_eq]
    simp only [hbb,cond_true];obtain ⟨seg,e1,e2,e3,e4⟩:=hin (j - i) (by omega);refine ⟨seg,e1,e2,e3,fun o ho=>?_⟩;rw [← e4 o ho];congr 3;omega
   ·have hbb:(Nat.ble i j&&Nat.blt j (i+len))=false:=by
     cases hz:(Nat.ble i j&&Nat.blt j (i+len))with
     | false=>rfl
     | true=>simp [Nat.blt_eq]at hz;exact absurd hz hin'
    simp only [hbb,cond_false];obtain ⟨seg,e1,e2,e3,e4⟩:=c8 j hj;refine ⟨seg,e1,e2,e3,fun o ho=>?_⟩;rw [← e4 o ho];refine hout _ ?_;rcases Nat.lt_or_ge j i with hji | hji
    ·have:(j+1)*(T B.ty).size≤i*(T B.ty).size:=Nat.mul_le_mul_right _ hji;rw [Nat.succ_mul]at this;exact .inl (by omega)
    ·have:(i+len)*(T B.ty).size≤j*(T B.ty).size:=Nat.mul_le_mul_right _ (by omega);exact .inr (by omega))
 rw [hplace,hset]at hch;exact ⟨Ev.change hw hq (iP.refl _) (fun a p hp=>⟨a,p,hp,rfl⟩) hoth hs h1 h2 h3,hch.2⟩
theorem xI {z:Array Value} {n i o:Nat} (ho:o<z.size) (hi:i<n):(Builtin.zeroCells z n)[i*z.size+o]? = z.toList[o]? := by
 have h1:(i*z.size+o) % z.size=o:=by rw [Nat.mul_comm,Nat.mul_add_mod];exact Nat.mod_eq_of_lt ho
 have h2:i*z.size+o<n*z.size:=by
  have:=Nat.mul_le_mul_right z.size (show i+1≤n from hi);rw [Nat.succ_mul]at this;omega
 simp [Builtin.zeroCells,h2,h1,ho]
theorem Du (hT:TOK P T N) {I:Imm} {ρ:Pl} {m:Id→Option Ob} {w:World} (hw:dR T N I ρ m w) {id:Id} {n i len:Nat} {cap:Option Nat} {B:Blk} {y:Value} {t ty:Nat}
 (hm:m id=some (.cells B)) (hk:(T t).kind = .slice B.ty) (hx:dI T N I ρ (.own id n i len cap) y) (hn:B.n=n) (hfz:B.fz≤i) (hz:oL (T B.ty).zero=true) :
 ∃ w',(Builtin.clear_ #[t] ty #[y]).run P w = .ok (.tuple #[]) w'∧Ev I ρ w I ρ w'∧dR T N I ρ (vV m id (.cells { B with get:=fun j=>bif Nat.ble i j&&Nat.blt j (i+len)then (T B.ty).zero else B.get j})) w':=by
 have he:=hT.slice t B.ty hk;have same:len=0→dR T N I ρ (vV m id (.cells { B with get:=fun j=>bif Nat.ble i j&&Nat.blt j (i+len)then (T B.ty).zero else B.get j})) w:=by
  rintro rfl;have e1:(fun j=>bif Nat.ble i j&&Nat.blt j (i+0)then (T B.ty).zero else B.get j)=B.get:=by
   funext j;have hbb:(Nat.ble i j&&Nat.blt j (i+0))=false:=by
    cases hz:(Nat.ble i j&&Nat.blt j (i+0))with
    | false=>rfl
    | true=>simp [Nat.blt_eq]at hz;omega
   show (bif (Nat.ble i j&&Nat.blt j (i+0))then _ else _)=_;rw [hbb];rfl
  have e2:vV m id (.cells { B with get:=fun j=>bif Nat.ble i j&&Nat.blt j (i+0)then (T B.ty).zero else B.get j})=m:=by
   funext a;by_cases ha:a=id
   ·subst ha;rw [bC,hm,e1]
   ·rw [dL _ _ ha]
  rw [e2];exact hw
 rcases Rep.own_inv hx with ⟨rfl,rfl,rfl,rfl⟩ | ⟨q,hq,hqn,hx⟩
 ·exact ⟨w,by simp [Builtin.clear_,(hT.sli hk).2],Ev.refl _ _ _,same rfl⟩
 obtain ⟨q',cs,c1,c2,c3,c4,c5,c6,c7,c8,c9,c10⟩:=hw.cellsAt hm hq;rw [hq]at c1;cases c1;obtain ⟨c,rfl,g1,g2,g3,g4,g5,g6⟩:=hx (by rw [c3,hn]);by_cases hl0:len=0
 ·subst hl0;exact ⟨w,by simp [Builtin.clear_,(hT.sli hk).2],Ev.refl _ _ _,same rfl⟩
 obtain ⟨inf,z,hi1,hz1,hzf,hzr⟩:=hT.zero B.ty he hz;have hzl:z.cells.size=(T B.ty).size:=by
  have:=kQ hT he (hzr I ρ) hzf;simpa using this
 have hzone:∀ v∈(Builtin.zeroCells z.cells len).toList,v.oneCell'=true:=by
  intro v hv;have hone:=(hzr I ρ).cells_one
  simp only [Builtin.zeroCells,Array.toList_map,List.mem_map]at hv;obtain ⟨k,hk1,rfl⟩:=hv;have hk2:k<len*z.cells.size:=by simpa using hk1
  have hpos:0<z.cells.size:=by
   rcases Nat.eq_zero_or_pos z.cells.size with h | h
   ·rw [h]at hk2;omega
   ·exact h
  have hlt:k % z.cells.size<z.cells.size:=Nat.mod_lt _ hpos;rw [getElem!_pos z.cells _ hlt];exact hone _ (by simp [Array.getElem_mem_toList])
 have hcl:(i+len)*(T B.ty).size≤B.n*(T B.ty).size:=Nat.mul_le_mul_right _ (by omega);have hnl:(Builtin.zeroCells z.cells len).toList.length=len*(T B.ty).size:=by simp [Builtin.zeroCells,hzl]
 rw [Nat.add_mul]at hcl;have hst:=run_storeCells_at P q.b (i*(T B.ty).size) B.ty (Builtin.zeroCells z.cells len).toList 0 cs w c5 (by rw [hnl];omega) hzone
 simp only [Nat.add_zero]at hst;have hcs':∀ k:Nat,(cs.toList.take (i*(T B.ty).size)++(Builtin.zeroCells z.cells len).toList++cs.toList.drop (i*(T B.ty).size+(Builtin.zeroCells z.cells len).toList.length)).toArray[k]? =
  if i*(T B.ty).size≤k∧k<i*(T B.ty).size+len*(T B.ty).size then (Builtin.zeroCells z.cells len)[k - i*(T B.ty).size]? else cs[k]? := by
  intro k;simp only [List.getElem?_toArray];have hcl:cs.toList.length=cs.size:=by simp
  by_cases h1:k<i*(T B.ty).size
  ·rw [if_neg (by omega),List.append_assoc,List.getElem?_append_left (by rw [List.length_take];omega),List.getElem?_take,if_pos h1,Array.getElem?_toList]
  ·by_cases h2:k<i*(T B.ty).size+len*(T B.ty).size
   ·rw [if_pos (by omega),List.append_assoc,List.getElem?_append_right (by rw [List.length_take];omega),List.length_take,Nat.min_eq_left (by omega),List.getElem?_append_left (by rw [hnl];omega),Array.getElem?_toList]
   ·rw [if_neg (by omega),List.getElem?_append_right (by rw [List.length_append,List.length_take,hnl];omega),List.length_append,List.length_take,Nat.min_eq_left (by omega),List.getElem?_drop,Array.getElem?_toList];rw [hnl];congr 1;omega
 have hsw:=zI (len:=len) (h:=fun _=>(T B.ty).zero) (w':=w.setRow q.b (cs.toList.take (i*(T B.ty).size)++(Builtin.zeroCells z.cells len).toList++cs.toList.drop (i*(T B.ty).size+(Builtin.zeroCells z.cells len).toList.length)).toArray) hT hw hm hq (by omega) hfz c5
  (by simp only [List.size_toArray,List.length_append,List.length_take,List.length_drop,Array.length_toList,hnl];omega) (setRow_heap w q.b cs _ B.ty (0,0) c5) (fun b _ hb=>setRow_other w q.b b _ hb) (by simp) rfl rfl ⟨rfl,by first | exact Nat.le_refl _ | exact Nat.le_succ _⟩
  (
   fun j hj=>by
   refine ⟨z.cells.toList,hzr I ρ,hzf,by simpa using hzl,fun o ho=>?_⟩;have h9:(j+1)*(T B.ty).size≤len*(T B.ty).size:=Nat.mul_le_mul_right _ hj
   rw [Nat.succ_mul]at h9;rw [hcs',if_pos (by rw [Nat.add_mul];omega),← xI (n:=len) (i:=j) (by omega) hj];congr 1;rw [Nat.add_mul,hzl];omega)
  (fun k hk=>by rw [hcs',if_neg (by rw [← Nat.add_mul];omega)])
 refine ⟨_,?_,hsw.1,hsw.2⟩;obtain ⟨l0,hl0'⟩:∃ l0,len=l0+1:=⟨len - 1,by omega⟩;subst hl0';simp [Builtin.clear_,(hT.sli hk).2,zeroValue,typeInfo,hi1,hz1,hst,c2]
end
section
variable {P:Program} {T:Nat→TI} {N:Nat}
theorem iO (hT:TOK P T N) {I:Imm} {ρ:Pl} (em:Bool) (w:World):∀ (f n t:Nat) (x:AV) (v:Value),f≤n→wu T f t=true→dI T N I ρ x v→fit T t x=true→(Instr.checkKey em n t v).run P w = .ok () w
 | 0,_,_,_,_,_,h,_,_=>by simp [wu]at h
 | f+1,0,_,_,_,hn,_,_,_=>by omega
 | f+1,n+1,t,x,v,hn,hk,hx,hf=>by
  have plain:(T t).kind.isAgg=false→(∀ d,P.underlying t=some d→(∀ a b,d ≠ .array a b)∧(∀ a,d ≠ .struct a)∧(∀ a,d ≠ .interface a))→(Instr.checkKey em (n+1) t v).run P w = .ok () w:=by
   intro ha hd;have ht:t<N:=by
    refine hT.lt (fun e=>?_);simp [wu,e]at hk
   obtain ⟨d,h1,h2,_⟩:=hT.runUnd ht;obtain ⟨g1,g2,g3⟩:=hd d h2;simp only [Instr.checkKey,Sem.run_bind,h1,Result.andThen_ok];cases d <;> first | exact absurd rfl (g1 _ _) | exact absurd rfl (g2 _) | exact absurd rfl (g3 _) | rfl
  unfold wu at hk;split at hk
  ·rename_i k hkd;have:=kind_int hT hkd w
   refine plain (by rw [hkd];rfl) (fun d hd=>?_);have h2:=hT.runUnd (hT.lt (t:=t) (by rw [hkd];simp))
   obtain ⟨d',_,h3,h4⟩:=h2;rw [hd]at h3;cases h3;rw [hkd]at h4;cases d <;> simp_all [kindOf]
  ·rename_i hkd;refine plain (by rw [hkd];rfl) (fun d hd=>?_);obtain ⟨d',_,h3,h4⟩:=hT.runUnd (hT.lt (t:=t) (by rw [hkd];simp));rw [hd]at h3;cases h3;rw [hkd]at h4;cases d <;> simp_all [kindOf]
  ·rename_i hkd;refine plain (by rw [hkd];rfl) (fun d hd=>?_);obtain ⟨d',_,h3,h4⟩:=hT.runUnd (hT.lt (t:=t) (by rw [hkd];simp));rw [hd]at h3;cases h3;rw [hkd]at h4;cases d <;> simp_all [kindOf]
  ·
    rename_i fs hkd;simp only [Bool.and_eq_true,List.all_eq_true]at hk;obtain ⟨m,g,rfl⟩:=nY hf (by rw [hkd];rfl);obtain ⟨cs,hr,rfl,_,ht⟩:=dI.agg_inv hx;obtain ⟨d,hd,hkk,hfl⟩:=hT.und t ht;rw [hkd]at hkk;cases d <;> simp only [kindOf,reduceCtorEq,TK.struct.injEq]at hkk
    rename_i flds;subst hkk;rw [Instr.checkKey];simp only [Sem.run_bind,run_underlying hd,Result.andThen_ok];rw [← Array.forIn_toList];have each:∀ fl∈flds.toList,fl.name ≠ "_" ∧ ∃ y,(part fl.type cs.toArray fl.offset).run P w = .ok y w∧(Instr.checkKey em n fl.type y).run P w = .ok () w:=by
     intro fl hm;obtain ⟨k,hkk⟩:=List.getElem?_of_mem hm;have hkk':flds[k]? = some fl:=by rw [← hkk,Array.getElem?_toList]
     obtain ⟨o1,o2⟩:=hfl flds rfl k fl hkk';have hu:(flds.toList.map (·.type))[k]? = some fl.type:=by simp [hkk']
     have hpt:aJ T t [k]=some fl.type:=by simp only [aJ,hkd,hu];rfl
     have hpi:pathIn T t [k]:=by simp [pathIn,hkd,hu]
     have hpo:aF T t [k]=lK T (flds.toList.map (·.type)) k:=by simp [aF,hkd,hu]
     have hft:fit T t (.agg t m g)=true:=by simp [fit,hkd,TK.isAgg]
     have htt:fit T t (.agg t m g)=true:=hft;obtain ⟨seg,s1,s2,s3,s4⟩:=hr.at [k] hft (Rep.agg_len hT hr) hpt hpi;have hlt:=hT.pathLt [k] ht hpt
     have hrun:=fO hT hlt s1 s2 s3 (cs:=cs.toArray) (off:=fl.offset) (w:=w) (fun o ho=>by
      have:=s4 o ho;rw [hpo,← o1]at this;simpa using this)
     refine ⟨o2,_,hrun,iO hT em w f n fl.type _ _ (by omega) (hk.2 _ (List.mem_of_getElem? hu)) s1.pack s2⟩
    generalize flds.toList=L at each
    induction L with
    | nil=>simp
    | cons fl L ih =>
     obtain ⟨h1,y,h2,h3⟩:=each fl (by simp);simp only [List.forIn_cons,Sem.run_bind,h1,ne_eq,not_false_eq_true,if_true,Result.andThen_ok,h2,h3,Sem.run_pure];exact ih (fun y hy=>each y (by simp [hy]))
  ·
    rename_i len e hkd;obtain ⟨m,g,rfl⟩:=nY hf (by rw [hkd];rfl);obtain ⟨cs,hr,rfl,_,ht⟩:=dI.agg_inv hx;have he:=(hT.array t len e hkd).1
    have hft:fit T t (.agg t m g)=true:=by simp [fit,hkd,TK.isAgg]
    rw [Instr.checkKey];simp only [Sem.run_bind,hT.arr hkd,Result.andThen_ok];simp only [Std.Legacy.Range.forIn_eq_forIn_range',Std.Legacy.Range.size,Nat.sub_zero,Nat.add_one_sub_one,Nat.div_one];have each:∀ k∈List.range' 0 len,∃ y,(part e cs.toArray (k*(T e).size)).run P w = .ok y w∧(Instr.checkKey em n e y).run P w = .ok () w:=by
     intro k hm;have hkl:k<len:=by simpa using hm
     have hpt:aJ T t [k]=some e:=by simp [aJ,hkd]
     have hpi:pathIn T t [k]:=by simp [pathIn,hkd,hkl]
     have hpo:aF T t [k]=k*(T e).size:=by simp [aF,hkd]
     obtain ⟨seg,s1,s2,s3,s4⟩:=hr.at [k] hft (Rep.agg_len hT hr) hpt hpi;have hrun:=fO hT he s1 s2 s3 (cs:=cs.toArray) (off:=k*(T e).size) (w:=w) (fun o ho=>by
      have:=s4 o ho;rw [hpo]at this;simpa using this)
     exact ⟨_,hrun,iO hT em w f n e _ _ (by omega) hk s1.pack s2⟩
    generalize List.range' 0 len=L at each
    induction L with
    | nil=>simp
    | cons k L ih =>
     obtain ⟨y,h2,h3⟩:=each k (by simp);simp only [List.forIn_cons,Sem.run_bind,hT.runSize he,Result.andThen_ok,h2,h3,Sem.run_pure];exact ih (fun y hy=>each y (by simp [hy]))
  ·cases hk
theorem Iz (hT:TOK P T N) {I:Imm} {ρ:Pl} {f kt:Nat} {x y:AV} {u v:Value} {b:Bool} (hx:dI T N I ρ x u) (hy:dI T N I ρ y v) (ha:(T kt).kind.isAgg=false) (h:iH T f kt x y=some b) {d:TypeDesc} (hd:P.underlying kt=some d):Instr.sameNow d u v=some b:=by
 have ht:(T kt).kind ≠ .other:=by
  intro e;cases f <;> simp [iH,e]at h
 obtain ⟨d',_,h3,h4⟩:=hT.runUnd (hT.lt ht);rw [hd]at h3;cases h3;cases f with
 | zero=>simp [iH]at h
 | succ f =>
  unfold iH at h;split at h
  ·rename_i hk;obtain ⟨hb,h⟩:=ak h;cases h;obtain ⟨rfl,_⟩:=hx.v;obtain ⟨rfl,_⟩:=hy.v;rw [hk]at h4;cases d <;> simp only [kindOf,reduceCtorEq,TK.int.injEq]at h4
   have:_=_:=of_decide_eq_true hb;simp [Instr.sameNow,this]
  ·rename_i hk;cases h;obtain ⟨rfl,_⟩:=hx.v;obtain ⟨rfl,_⟩:=hy.v;rw [hk]at h4;cases d <;> simp only [kindOf,reduceCtorEq]at h4
   rfl
  ·rename_i hk;cases h;obtain ⟨rfl,_⟩:=hx.v;obtain ⟨rfl,_⟩:=hy.v;rw [hk]at h4;cases d <;> simp only [kindOf,reduceCtorEq]at h4
   rfl
  ·rename_i hk;rw [hk]at ha;cases ha
  ·rename_i hk;rw [hk]at ha;cases ha
  ·cases h
theorem get_map {w:World} {r:Nat} {es:Array MapEntry} {clock:Nat} (hb:w.heap[r]? = some (.map es clock)):(getObj r).run P w = .ok (.map es clock) w:=by
 simp [getObj,Sem.run,hb]
theorem Hy {w:World} {r:Nat} {es:Array MapEntry} {clock:Nat} (o:Obj) (hb:w.heap[r]? = some (.map es clock)):(setObj r o).run P w = .ok () { w with heap:=w.heap.setIfInBounds r o}:=by
 simp [setObj,Sem.run,hb]
def Found (es:List MapEntry) (i0:Nat) (j:Option Nat) (r:Option (Nat×Value)):Prop:=match j with
 | none=>r=none
 | some i => ∃ e,i0≤i∧es[i - i0]? = some e∧r=some (i,e.val)
theorem Found.cons {e:MapEntry} {es:List MapEntry} {i0:Nat} {j:Option Nat} {r:Option (Nat×Value)} (h:Found es (i0+1) j r):Found (e::es) i0 j r:=by
 cases j with
 | none=>exact h
 | some i =>
  obtain ⟨e',h1,h2,h3⟩:=h;exact ⟨e',by omega,by rw [show i - i0=(i - (i0+1))+1 by omega,List.getElem?_cons_succ];exact h2,h3⟩
theorem vG (hT:TOK P T N) {I:Imm} {ρ:Pl} {kt:Nat} {k:AV} {kv:Value} (hk:dI T N I ρ k kv) (ha:(T kt).kind.isAgg=false) {d:TypeDesc} (hd:P.underlying kt=some d):∀ (es:List (AV×AV)) (en:List MapEntry) (i0:Nat) (j:Option Nat),en.length=es.length →
 (∀ (i:Nat) (p:AV×AV) (e:MapEntry),es[i]? = some p→en[i]? = some e→dI T N I ρ p.1 e.key)→mapIdx T kt k es i0=some j → ∃ r,Instr.findNow d kv en i0=some r∧Found en i0 j r
 | [],[],i0,j,_,_,h=>by cases h;exact ⟨none,rfl,rfl⟩
 | [],_::_,_,_,hl,_,_=>by simp at hl
 | _::_,[],_,_,hl,_,_=>by simp at hl
 | p::es,e::en,i0,j,hl,hr,h=>by
  unfold mapIdx at h;split at h
  ·rename_i hq;cases h;have:=Iz hT hk (hr 0 p e rfl rfl) ha hq hd
   exact ⟨some (i0,e.val),by simp [Instr.findNow,this],e,Nat.le_refl _,by simp,rfl⟩
  ·rename_i hq;have:=Iz hT hk (hr 0 p e rfl rfl) ha hq hd
   obtain ⟨r,h1,h2⟩:=vG hT hk ha hd es en (i0+1) j (by simpa using hl) (fun i p' e' h1 h2=>hr (i+1) p' e' (by simpa using h1) (by simpa using h2)) h;exact ⟨r,by simp [Instr.findNow,this,h1],h2.cons⟩
  ·cases h
theorem oQ (hE:xH P T N) {I:Imm} {ρ:Pl} {kt:Nat} {k:AV} {kv:Value} (hk:dI T N I ρ k kv) (ha:(T kt).kind.isAgg=true) (w:World):∀ (es:List (AV×AV)) (en:List MapEntry) (i0:Nat) (j:Option Nat),en.length=es.length →
 (∀ (i:Nat) (p:AV×AV) (e:MapEntry),es[i]? = some p→en[i]? = some e→dI T N I ρ p.1 e.key)→mapIdx T kt k es i0=some j → ∃ r,(Instr.findAsking kt kv en i0).run P w = .ok r w∧Found en i0 j r
 | [],[],i0,j,_,_,h=>by cases h;exact ⟨none,by simp [Instr.findAsking],rfl⟩
 | [],_::_,_,_,hl,_,_=>by simp at hl
 | _::_,[],_,_,hl,_,_=>by simp at hl
 | p::es,e::en,i0,j,hl,hr,h=>by
  unfold mapIdx at h;split at h
  ·rename_i hq;cases h;have:=(hE I ρ 40 kt _ _ _ _ _ w hk (hr 0 p e rfl rfl) ha hq (Nat.le_refl _)).1
   exact ⟨some (i0,e.val),by simp [Instr.findAsking,this],e,Nat.le_refl _,by simp,rfl⟩
  ·rename_i hq;have:=(hE I ρ 40 kt _ _ _ _ _ w hk (hr 0 p e rfl rfl) ha hq (Nat.le_refl _)).1
   obtain ⟨r,h1,h2⟩:=oQ hE hk ha w es en (i0+1) j (by simpa using hl) (fun i p' e' h1 h2=>hr (i+1) p' e' (by simpa using h1) (by simpa using h2)) h;exact ⟨r,by simp [Instr.findAsking,this,h1],h2.cons⟩
  ·cases h
theorem vH (hT:TOK P T N) (hE:xH P T N) {I:Imm} {ρ:Pl} {kt:Nat} {k:AV} {kv:Value} (hkt:kt<N) (hk:dI T N I ρ k kv) (w:World) {es:List (AV×AV)} {en:List MapEntry} {j:Option Nat} (hl:en.length=es.length)
 (hr:∀ (i:Nat) (p:AV×AV) (e:MapEntry),es[i]? = some p→en[i]? = some e→dI T N I ρ p.1 e.key) (h:mapIdx T kt k es 0=some j):∃ r,(Instr.findKey kt kv en).run P w = .ok r w∧Found en 0 j r:=by
 obtain ⟨d,hd,hd',hkd⟩:=hT.runUnd hkt;cases ha:(T kt).kind.isAgg with
 | false =>
  obtain ⟨r,h1,h2⟩:=vG hT hk ha hd' es en 0 j hl hr h;exact ⟨r,by simp [Instr.findKey,hd,h1],h2⟩
 | true =>
  cases en with
  | nil =>
   cases es with
   | nil=>cases h;exact ⟨none,by simp [Instr.findKey,hd,Instr.findNow],rfl⟩
   | cons p es=>simp at hl
  | cons e en =>
   obtain ⟨r,h1,h2⟩:=oQ hE hk ha w es (e::en) 0 j hl hr h;refine ⟨r,?_,h2⟩;have hn:Instr.sameNow d kv e.key=none:=by
    rw [← hkd]at ha;cases d <;> simp [kindOf,TK.isAgg]at ha <;> rfl
   simp [Instr.findKey,hd,Instr.findNow,hn,h1]
theorem Ew {I:Imm} {ρ:Pl} {es:List (AV×AV)} {entries:Array MapEntry} (h:∀ (i:Nat) (k v:AV),es[i]? = some (k,v) → ∃ e:MapEntry,entries[i]? = some e∧dI T N I ρ k e.key∧dI T N I ρ v e.val) :
 ∀ (i:Nat) (p:AV×AV) (e:MapEntry),es[i]? = some p→entries.toList[i]? = some e→dI T N I ρ p.1 e.key∧dI T N I ρ p.2 e.val:=by
 intro i p e h1 h2;obtain ⟨e',h3,h4,h5⟩:=h i p.1 p.2 h1;rw [Array.getElem?_toList,h3]at h2;cases h2;exact ⟨h4,h5⟩
theorem Ai (hT:TOK P T N) (hE:xH P T N) {I:Imm} {ρ:Pl} {m:Id→Option Ob} {w:World} (hw:dR T N I ρ m w) {id:Id} {es:List (AV×AV)} {t kt vt:Nat} {k r:AV} {y kv:Value} {ok:Bool} (hm:m id=some (.map es)) (hk:(T t).kind = .map kt vt)
 (hx:dI T N I ρ (.mp id) y) (hkr:dI T N I ρ k kv) (hky:wu T 40 kt=true) (hfk:fit T kt k=true) (hz:oL (T vt).zero=true) (h:IE T kt vt es k ok=some r) :
 ∃ u,(Instr.lookup t y kv ok).run P w = .ok u w∧gI T N I ρ r u:=by
 obtain ⟨p,en,cl,d1,d2,d3,d4,d5,d6⟩:=hw.maps id es hm;obtain ⟨hkt,hvt⟩:=hT.map t kt vt hk;have hy:y = .map (some p.b):=by
  obtain ⟨cs,h1,h2⟩:=hx;cases h1 with
  | mp q hq hx1 hx'=>rw [d1]at hq;cases hq;rw [h2];simpa [bZ]using hx' d2
 subst hy;have hu:∀ w,(underlying t).run P w = .ok (.map kt vt) w:=by
  obtain ⟨d,hd,h1,h2⟩:=hT.runUnd (hT.lt (t:=t) (by rw [hk];simp));rw [hk]at h2;cases d <;> simp only [kindOf,reduceCtorEq,TK.map.injEq]at h2
  obtain ⟨rfl,rfl⟩:=h2;exact hd
 simp only [IE,Option.bind_eq_some_iff]at h;obtain ⟨j,hj,h⟩:=h;have hrep:=Ew d6
 obtain ⟨rf,f1,f2⟩:=vH hT hE hkt hkr w (by rw [Array.length_toList];exact d4) (fun i p e h1 h2=>(hrep i p e h1 h2).1) hj;have hck:=iO hT en.isEmpty w 40 10000 kt k kv (by omega) hky hkr hfk
 cases j with
 | none =>
  cases f2;obtain ⟨i,z,hi,hz',hzf,hzr⟩:=hT.zero vt hvt hz;have hzrun:(zeroValue vt).run P w = .ok z w:=by simp [zeroValue,typeInfo,hi,hz']
  have hzrep:dI T N I ρ (T vt).zero z:=by
   have:=(hzr I ρ).pack;rw [hT.zpack vt hvt hz i z hi hz']at this;exact this
  simp only at h;cases ok with
  | false =>
   cases h;refine ⟨z,?_,.one hzrep⟩;simp [Instr.lookup,hu,get_map d3,hck,f1,hzrun]
  | true =>
   cases h;refine ⟨.tuple #[z,.bool false],?_,?_⟩
   ·simp [Instr.lookup,hu,get_map d3,hck,f1,hzrun]
   ·refine .tup _ rfl (fun i c hc=>?_)
    match i,hc with
    | 0,hc=>simp at hc;subst hc;simpa using hzrep
    | 1,hc=>simp at hc;subst hc;simpa using wQ rfl
    | n+2,hc=>simp at hc
 | some i =>
  obtain ⟨e,_,g2,rfl⟩:=f2;simp only [Nat.sub_zero]at g2;simp only [Option.bind_eq_some_iff,Option.some.injEq]at h;obtain ⟨pe,h1,h2⟩:=h;have hv:=(hrep i pe e h1 g2).2
  cases ok with
  | false =>
   refine ⟨e.val,?_,.one (h2▸hv)⟩;simp [Instr.lookup,hu,get_map d3,hck,f1]
  | true =>
   refine ⟨.tuple #[e.val,.bool true],?_,?_⟩
   ·simp [Instr.lookup,hu,get_map d3,hck,f1]
   ·rw [← h2];refine .tup _ rfl (fun i c hc=>?_)
    match i,hc with
    | 0,hc=>simp at hc;subst hc;simpa using hv
    | 1,hc=>simp at hc;subst hc;simpa using wQ rfl
    | n+2,hc=>simp at hc
theorem dR.freshMap {I:Imm} {ρ:Pl} {m:Id→Option Ob} {w w':World} (hw:dR T N I ρ m w) {id:Id} (hnp:ρ id=none) {b:Nat} (hbs:w.heap.size≤b) {cl:Nat}
 (hold:∀ r,r<w.heap.size→w'.heap[r]? = w.heap[r]?) (hnew:w'.heap[b]? = some (.map #[] cl)) (ty lim:Nat) :
 dR T N I (mZ ρ id ⟨b,ty,0,lim⟩) (vV m id (.map [])) w':=by
 have hle:iP ρ (mZ ρ id ⟨b,ty,0,lim⟩):=by
  intro a p hp;have ha:a≠id:=by rintro rfl;rw [hnp]at hp;cases hp
  exact ⟨p,by rw [aZ _ _ ha,hp],Nat.le_refl _,fun _=>rfl⟩
 have hI:∀ o,I b o=none:=fun o=>by
  cases h:I b o with
  | none=>rfl
  | some y=>have:=iE (hw.imm b o y h);omega
 refine ⟨?_,?_,?_,?_,?_,hw.gl⟩
 ·intro a A hA;have ha:a≠id:=by rintro rfl;rw [bC]at hA;cases hA
  rw [dL _ _ ha]at hA;rcases hw.cells a A hA with ⟨d1,d2⟩ | ⟨p,ds,d1,d2,d3,d4,d5,d6,d7,d8,d9,d10⟩
  ·exact .inl ⟨by rw [aZ _ _ ha];exact d1,d2⟩
  refine .inr ⟨p,ds,by rw [aZ _ _ ha];exact d1,d2,d3,d4,by rw [hold _ (hw.place_lt d1)];exact d5,d6,d7,fun i hi=>?_,d9,d10⟩;obtain ⟨seg,e1,e2,e3,e4⟩:=d8 i hi;exact ⟨seg,e1.mono (iQ.refl _) hle,e2,e3,e4⟩
 ·intro a es hA;by_cases ha:a=id
  ·subst ha;rw [bC]at hA;cases hA;exact ⟨_,#[],cl,aU _ _ _,rfl,hnew,rfl,fun j=>hI j,fun i k v hi=>by simp at hi⟩
  ·rw [dL _ _ ha]at hA;obtain ⟨p,en,cl,d1,d2,d3,d4,d5,d6⟩:=hw.maps a es hA;refine ⟨p,en,cl,by rw [aZ _ _ ha];exact d1,d2,by rw [hold _ (hw.place_lt d1)];exact d3,d4,d5,fun i k v hi=>?_⟩;obtain ⟨e,e1,e2,e3⟩:=d6 i k v hi;exact ⟨e,e1,e2.mono (iQ.refl _) hle,e3.mono (iQ.refl _) hle⟩
 ·intro a p hp;by_cases ha:a=id
  ·subst ha;rw [bC];simp
  ·rw [dL _ _ ha];rw [aZ _ _ ha]at hp;exact hw.dom a p hp
 ·intro a c p r hp hr e;by_cases ha:a=id
  ·by_cases hc:c=id
   ·rw [ha,hc]
   ·subst ha;rw [aU]at hp;cases hp;rw [aZ _ _ hc]at hr;have:=hw.place_lt hr
    simp only at e;omega
  ·rw [aZ _ _ ha]at hp;by_cases hc:c=id
   ·subst hc;rw [aU]at hr;cases hr;have:=hw.place_lt hp
    simp only at e;omega
   ·rw [aZ _ _ hc]at hr;exact hw.inj a c p r hp hr e
 ·intro c o y hy;have h0:=hw.imm c o y hy
  rw [jd (hold c (iE h0))];exact h0
theorem dR.changeMap {I:Imm} {ρ:Pl} {m:Id→Option Ob} {w w':World} (hw:dR T N I ρ m w) {id:Id} {es es':List (AV×AV)} {q:Place} (hm:m id=some (.map es)) (hq:ρ id=some q) {en:Array MapEntry} {cl:Nat}
 (hh':w'.heap[q.b]? = some (.map en cl)) (hoth:∀ b,b≠q.b→w'.heap[b]? = w.heap[b]?) (hl:en.size=es'.length)
 (hel:∀ (i:Nat) (k v:AV),es'[i]? = some (k,v) → ∃ e:MapEntry,en[i]? = some e∧dI T N I ρ k e.key∧dI T N I ρ v e.val) :
 dR T N I ρ (vV m id (.map es')) w':=by
 obtain ⟨q',en0,cl0,c1,c2,c3,c4,c5,c6⟩:=hw.maps id es hm;rw [hq]at c1;cases c1;refine ⟨?_,?_,?_,hw.inj,?_,hw.gl⟩
 ·intro a A hA;have ha:a≠id:=by rintro rfl;rw [bC]at hA;cases hA
  rw [dL _ _ ha]at hA;rcases hw.cells a A hA with h | ⟨p,ds,d1,d2,d3,d4,d5,d6,d7,d8,d9,d10⟩
  ·exact .inl h
  ·exact .inr ⟨p,ds,d1,d2,d3,d4,by rw [hoth _ (fun e=>ha (hw.inj a id p q d1 hq e))];exact d5,d6,d7,d8,d9,d10⟩
 ·intro a es0 hA;by_cases ha:a=id
  ·subst ha;rw [bC]at hA;cases hA;exact ⟨q,en,cl,hq,c2,hh',hl,c5,hel⟩
  ·rw [dL _ _ ha]at hA;obtain ⟨p,en1,cl1,d1,d2,d3,d4,d5,d6⟩:=hw.maps a es0 hA;exact ⟨p,en1,cl1,d1,d2,by rw [hoth _ (fun e=>ha (hw.inj a id p q d1 hq e))];exact d3,d4,d5,d6⟩
 ·intro a p hp;by_cases ha:a=id
  ·subst ha;rw [bC];simp
  ·rw [dL _ _ ha];exact hw.dom a p hp
 ·intro b o y hy;have h0:=hw.imm b o y hy
  by_cases hb:b=q.b
  ·subst hb;rw [c5 o]at hy;cases hy
  ·rw [jd (hoth b hb)];exact h0
theorem zK {d:TypeDesc} {u v:Value} (h:Instr.sameNow d u v=some true):Instr.sameBits 10000 v u=true:=by
 unfold Instr.sameNow at h;split at h
 ·split at h
  ·rename_i k a k' b hk;cases hk;simp only [Option.some.injEq]at h;have:a=b:=by simpa using h
   simp [Instr.sameBits,this]
  ·cases h
 ·simp only [Option.some.injEq]at h;rw [beq_toListBytes]at h;simp only [Instr.sameBits,beq_toListBytes];simp at h ⊢;exact h.symm
 ·simp only [Option.some.injEq]at h;have:=eq_of_beq h
  simp [Instr.sameBits,this]
 ·cases h
theorem uS {kt:Nat} {k:AV}:∀ {es:List (AV×AV)} {i0 i:Nat},mapIdx T kt k es i0=some (some i)→i0≤i ∧ ∃ p,es[i - i0]? = some p∧iH T 40 kt k p.1=some true
 | [],_,_,h=>by cases h
 | p::es,i0,i,h=>by
  unfold mapIdx at h;split at h
  ·rename_i hq;cases h;exact ⟨Nat.le_refl _,p,by simp,hq⟩
  ·obtain ⟨h1,q,h2,h3⟩:=uS h;exact ⟨by omega,q,by rw [show i - i0=(i - (i0+1))+1 by omega,List.getElem?_cons_succ];exact h2,h3⟩
  ·cases h
theorem nP (hT:TOK P T N) (hE:xH P T N) {I:Imm} {ρ:Pl} {m:Id→Option Ob} {w:World} (hw:dR T N I ρ m w) {id:Id} {es es':List (AV×AV)} {t kt vt:Nat} {k v:AV} {y kv vv:Value} (hm:m id=some (.map es)) (hk:(T t).kind = .map kt vt)
 (hx:dI T N I ρ (.mp id) y) (hkr:dI T N I ρ k kv) (hvr:dI T N I ρ v vv) (hky:wu T 40 kt=true) (hfk:fit T kt k=true) (h:IG T kt es k v=some es') :
 ∃ w',(Instr.mapUpdate t y kv vv).run P w = .ok () w'∧Ev I ρ w I ρ w'∧dR T N I ρ (vV m id (.map es')) w':=by
 obtain ⟨p,en,cl,d1,d2,d3,d4,d5,d6⟩:=hw.maps id es hm;obtain ⟨hkt,hvt⟩:=hT.map t kt vt hk;have hy:y = .map (some p.b):=by
  obtain ⟨cs,h1,h2⟩:=hx;cases h1 with
  | mp q hq hx1 hx'=>rw [d1]at hq;cases hq;rw [h2];simpa [bZ]using hx' d2
 subst hy;have hu:∀ w,(underlying t).run P w = .ok (.map kt vt) w:=by
  obtain ⟨d,hd,h1,h2⟩:=hT.runUnd (hT.lt (t:=t) (by rw [hk];simp));rw [hk]at h2;cases d <;> simp only [kindOf,reduceCtorEq,TK.map.injEq]at h2
  obtain ⟨rfl,rfl⟩:=h2;exact hd
 simp only [IG,Option.bind_eq_some_iff]at h;obtain ⟨j,hj,h⟩:=h;have hrep:=Ew d6
 obtain ⟨rf,f1,f2⟩:=vH hT hE hkt hkr w (by rw [Array.length_toList];exact d4) (fun i p e h1 h2=>(hrep i p e h1 h2).1) hj;have hck:=iO hT false w 40 10000 kt k kv (by omega) hky hkr hfk
 have hlt:p.b<w.heap.size:=(Array.getElem?_eq_some_iff.1 d3).1;have hev:∀ o,Ev I ρ w I ρ { w with heap:=w.heap.setIfInBounds p.b o}:=fun o =>
  ⟨iQ.refl _,fun b o h h'=>absurd h h',iP.refl _,fun a q hq => .inl ⟨a,q,hq,rfl⟩,fun b hb hne=>by simp [Array.getElem?_setIfInBounds_ne (hne id p d1)],by simp,rfl,rfl,⟨rfl,Nat.le_refl _⟩⟩
 have hoth:∀ o b,b≠p.b→({ w with heap:=w.heap.setIfInBounds p.b o}:World).heap[b]? = w.heap[b]? := fun o b hb=>by simp [Array.getElem?_setIfInBounds_ne (Ne.symm hb)]
 have hself:∀ o,({ w with heap:=w.heap.setIfInBounds p.b o}:World).heap[p.b]? = some o:=fun o=>by simp [hlt]
 cases j with
 | none =>
  cases f2;cases h;refine ⟨{ w with heap:=w.heap.setIfInBounds p.b (.map (en.push { key:=kv,val:=vv,born:=cl}) (cl+1)) },?_,hev _,?_⟩
  ·simp [Instr.mapUpdate,hu,get_map d3,hck,f1,Hy _ d3]
  ·refine hw.changeMap hm d1 (hself _) (hoth _) (by simp [d4]) (fun i k' v' hi=>?_);rcases Nat.lt_or_ge i es.length with hil | hil
   ·rw [List.getElem?_append_left hil]at hi;obtain ⟨e,e1,e2,e3⟩:=d6 i k' v' hi;exact ⟨e,by rw [Array.getElem?_push_lt (by omega)];rw [← e1];simp [show i<en.size by omega],e2,e3⟩
   ·rw [List.getElem?_append_right hil]at hi;have h0:i - es.length=0:=by
     have:=(List.getElem?_eq_some_iff.1 hi).1;simp at this;omega
    rw [h0]at hi;simp at hi;obtain ⟨rfl,rfl⟩:=hi;have hie:i=en.size:=by omega
    subst hie;exact ⟨{ key:=kv,val:=vv,born:=cl},by simp,hkr,hvr⟩
 | some i =>
  obtain ⟨e,_,g2,rfl⟩:=f2;simp only [Nat.sub_zero]at g2;cases h;have g2':en[i]? = some e:=by rw [← g2,Array.getElem?_toList]
  obtain ⟨_,pe,h1,h2⟩:=uS hj;simp only [Nat.sub_zero]at h1;have hke:=(hrep i pe e h1 g2).1
  have hsb:Instr.sameBits 10000 e.key kv=true:=by
   obtain ⟨d,_,hd',_⟩:=hT.runUnd hkt;cases ha:(T kt).kind.isAgg with
   | false=>exact zK (Iz hT hkr hke ha h2 hd')
   | true=>exact (hE I ρ 40 kt _ _ _ _ _ w hkr hke ha h2 (Nat.le_refl _)).2.2 rfl
  refine ⟨{ w with heap:=w.heap.setIfInBounds p.b (.map (en.modify i fun e=>{ e with key:=kv,val:=vv}) cl) },?_,hev _,?_⟩
  ·simp [Instr.mapUpdate,hu,get_map d3,hck,f1,g2',Instr.keyThatStays,hsb,Hy _ d3]
  ·refine hw.changeMap hm d1 (hself _) (hoth _) (by simp [d4]) (fun i' k' v' hi=>?_);rw [List.getElem?_set]at hi;split at hi
   ·rename_i hii;subst hii;split at hi
    ·cases hi;exact ⟨{ e with key:=kv,val:=vv},by simp [Array.getElem?_modify,g2'],hkr,hvr⟩
    ·cases hi
   ·rename_i hii;obtain ⟨e',e1,e2,e3⟩:=d6 i' k' v' hi;exact ⟨e',by rw [Array.getElem?_modify,if_neg hii];exact e1,e2,e3⟩
end
section
variable {P:Program} {T:Nat→TI} {N:Nat}
theorem BP {t:Nat} {lo hi mx:Option Int} {m:Id→Option Ob} {x:AV} {r:AV×List Id×Prop} (h:slA T t lo hi mx m x=some r):∀ vs,x ≠ .tup vs:=by rintro vs rfl;cases h
theorem Bq {m:Id→Option Ob} {e:Nat} {q:Nat×(Nat→AV)×List Id} {x:AV} {r:Nat×List (Id×Ob)×List Id×Prop} (h:Pg T m e q x=some r):∀ vs,x ≠ .tup vs:=by rintro vs rfl;cases h
theorem zB {m:Id→Option Ob} {e:Nat} {x:AV} {r:Nat×(Nat→AV)×List Id} (h:Na T m e x=some r):∀ vs,x ≠ .tup vs:=by rintro vs rfl;cases h
theorem zZ {m:Id→Option Ob} {x:AV} {r:List Id×Option Prop} (h:Oq m x=some r):∀ vs,x ≠ .tup vs:=by rintro vs rfl;cases h
theorem zC {m:Id→Option Ob} {e:Nat} {x:AV} {r:Nat×(Nat→AV)×List Id} (h:JU T m e x=some r):∀ vs,x ≠ .tup vs:=by rintro vs rfl;cases h
theorem FX {I:Imm} {ρ:Pl} {m:Id→Option Ob} {w:World} (hw:dR T N I ρ m w) {x:AV} {y:Value} {r:List Id×Option Prop} (hx:dI T N I ρ x y) (h:Oq m x=some r) (hc:aj r.2):∃ b l c,y = .slice b l c∧l≤c:=by
 unfold Oq at h;split at h
 ·rcases Rep.row_inv hx with ⟨⟨_,rfl⟩,_,_⟩ | ⟨b,off,cap,segs,_,h1,_,_,_,_,_,_,rfl⟩
  ·exact ⟨_,0,0,rfl,Nat.le_refl _⟩
  ·exact ⟨_,_,_,rfl,h1⟩
 ·obtain ⟨rfl,_⟩:=hx.v;exact ⟨none,0,0,rfl,Nat.le_refl _⟩
 ·rename_i id n i len cap;split at h
  ·rename_i B hm;cases h;simp only [aj]at hc;rcases Rep.own_inv hx with ⟨rfl,_,_,_⟩ | ⟨q,hq,hn,hx⟩
   ·exact ⟨none,0,0,rfl,Nat.le_refl _⟩
   ·obtain ⟨q',cs,c1,c2,c3,_⟩:=hw.cellsAt hm hq;rw [hq]at c1;cases c1;obtain ⟨c,rfl,g1,_⟩:=hx (by rw [c3,hc]);exact ⟨_,_,_,rfl,g1⟩
  ·cases h
 ·cases h
theorem vK (hT:TOK P T N) (hE:xH P T N) {en:Entry} {I:Imm} {ρ:Pl} {st:St} {a:Act} {w:World} (hs:dU T N en I ρ st a w) {G:D} (hG:G.tr) {gs:List CG} {o:Oper} {r:R×List CG}
 (h:evX T st G gs o=some r) (hc:aj r.1.c):Did P T N o I ρ st.m r.1 (fun w=>(execOp a.eval o).run P w) w:=by
 have hw:=hs.wr;unfold evX at h;unfold execOp;cases hop:o.op <;> rw [hop]at h <;> (try dsimp only at h) <;> try (cases h;done)
 case slice t x lo hi mx =>
  simp only [Option.bind_eq_some_iff]at h;obtain ⟨b,h1,l,h2,hh,h3,q,h4,r',h5,h⟩:=h;obtain ⟨hb,h⟩:=ak h;cases h;simp only [aB]at hc;obtain ⟨k1,k2,k3,k4,k5,k6⟩:=hc;have hb':(BH q.1 || !BH hh.1)=true:=hb
  obtain ⟨u,g1,g2⟩:=Hq hT hw ((aI hs hG h1 k1).rep1 (BP h5)) (qU hs hG h2 k2) (qU hs hG h3 k3) (qU hs hG h4 k4) hb' h5 (jg hG k6) k5;exact ⟨_,w,I,ρ,bg g1,.inl ⟨u,rfl,g2⟩,Ev.refl _ _ _,hw⟩
 case buildSlice t len ps =>
  split at h
  ·rename_i g gs';obtain ⟨_,h⟩:=ak h;simp only [Option.bind_eq_some_iff]at h;obtain ⟨l,h1,h⟩:=h;split at h
   ·rename_i e hk;obtain ⟨hb,h⟩:=ak h;cases h;simp only [Bool.and_eq_true,List.all_eq_true]at hb;obtain ⟨⟨⟨⟨⟨⟨b0,b1⟩,b2⟩,b4⟩,b3⟩,b5⟩,b6⟩:=hb;have he:=hT.slice t e hk
    have hpos:=iw b4;obtain ⟨hl,hreps⟩:=lC hs hG h1 hc;simp only [List.length_map]at hl;obtain ⟨i,z,hi,hz,hzf,hzr⟩:=hT.zero e he b2;obtain ⟨i',hi',his,hib⟩:=hT.info e he;rw [hi]at hi';cases hi';have hzl:=kQ hT he (hzr I ρ) hzf
    have hzs:z.cells.size=(T e).size:=by simpa using hzl
    have hble:len*(T e).size≤16777216:=by simpa using b1
    have hnp:=hw.none_place (iq b3);obtain ⟨cs',f1,f2,f3⟩:=yM (T:=T) (N:=N) (I:=I) (ρ:=ρ) (e:=e) (len:=len) rfl he ((ps.toList.map (·.1)).zip l.1) (ps.toList.map fun x=>a.eval x.2) (fun _=>(T e).zero)
     (
      madeCells z.cells (len*(T e).size)) (fun p hp=>by
      have:=b6 p hp;exact ⟨iw this.1,this.2⟩) (by simp [hl]) (fun j p v hp hv=>by
      have hp6:=b6 p (List.mem_of_getElem? hp);rw [List.getElem?_zip_eq_some]at hp;obtain ⟨hp1,hp2⟩:=hp;simp only [List.getElem?_map,Option.map_eq_some_iff]at hp1 hv;obtain ⟨q',hq',rfl⟩:=hv;have hr:=((hreps j q'.2 p.2 (by simp [hq']) hp2).rep1 (gq hp6.2)).cells
      exact ⟨_,hr,by simp,kQ hT he hr hp6.2⟩) (size_madeCells _ _) (fun i hi=>⟨z.cells.toList,hzr I ρ,hzf,hzl,fun o ho=>lY hzs ho (by
       have:(i+1)*(T e).size≤len*(T e).size:=Nat.mul_le_mul_right _ hi;rw [Nat.succ_mul]at this;omega)⟩)
    have hpl:iP ρ (mZ ρ (site o) ⟨w.heap.size,e,len,cs'.size⟩):=by
     intro q p hp;have ha:q≠site o:=by rintro rfl;rw [hnp]at hp;cases hp
     exact ⟨p,by rw [aZ _ _ ha,hp],Nat.le_refl _,fun _=>rfl⟩
    have hfr:=dR.fresh (w':=w.alloc (.cells cs' e)) (B:=⟨e,len,qR ((ps.toList.map (·.1)).zip l.1) (T e).zero,0⟩) (b:=w.heap.size) (cs:=cs') hw hnp (Nat.le_refl _) (fun r hr=>bF w _ hr) (dF w _) he (by rw [f2];exact Nat.le_refl _) rfl
     (
      fun i hi=>by
      obtain ⟨seg,e1,e2,e3,e4⟩:=f3 i hi;exact ⟨seg,e1.mono (iQ.refl _) hpl,e2,e3,e4⟩)
    have hparts:(((ps.toList.map (·.1)).zip l.1).map (·.1)).zip (ps.toList.map fun x=>a.eval x.2)=(ps.map fun x=>(x.1,a.eval x.2)).toList:=by
     rw [List.map_fst_zip (by simp [hl])];simp [List.zip_map',Array.toList_map]
    rw [hparts]at f1;refine ⟨.value (.slice (some ⟨w.heap.size,0,none⟩) len len),w.alloc (.cells cs' e),I,mZ ρ (site o) ⟨w.heap.size,e,len,cs'.size⟩,iJ ?_,.inl ⟨_,rfl,.one ⟨[_],.own (ρ:=mZ ρ (site o) ⟨w.heap.size,e,len,cs'.size⟩) _ (aU _ _ _) (Nat.le_refl _) rfl (fun _=>⟨len,?_⟩),rfl⟩⟩,Ev.fresh hnp (Nat.le_refl _) (fun r hr=>bF w _ hr) (by simp) rfl rfl ⟨rfl,by first | exact Nat.le_refl _ | exact Nat.le_succ _⟩,by simpa [je]using hfr.2⟩
    ·have hno:¬ 16777216<len*(T e).size:=by omega
     by_cases h0:len*(T e).size=0
     ·have hm0:madeCells z.cells (len*(T e).size) = #[]:=Array.eq_empty_of_size_eq_zero (by rw [size_madeCells,h0]);have f1':Instr.fill (fun i=>some (i*(T e).size,(T e).size)) #[] (ps.map fun x=>(x.1,a.eval x.2)).toList=some cs':=by rw [hm0]at f1;exact f1
      simp only [Array.toList_map]at f1';have hr0:(Array.map (fun _=>(default:Value)) (Array.range 0)) = #[]:=Array.eq_empty_of_size_eq_zero (by simp)
      simp [Instr.buildSlice,(hT.sli hk).2,hT.runSize he,hno,h0,hr0,f1',newRow]
     ·have f1':Instr.fill (fun i=>some (i*(T e).size,(T e).size)) (madeCells z.cells (len*(T e).size)) (ps.map fun x=>(x.1,a.eval x.2)).toList=some cs':=f1;simp only [Array.toList_map,madeCells]at f1';simp [Instr.buildSlice,(hT.sli hk).2,hT.runSize he,hno,h0,zeroValue,typeInfo,hi,hz,f1',newRow]
    ·have hl1:len*1≤len*(T e).size:=Nat.mul_le_mul_left _ hpos;exact ⟨by simp [bZ],Nat.le_refl _,by omega,by omega,by simp only [f2,Nat.zero_add];exact Nat.le_refl _,fun _=>by simp only [f2,Nat.zero_add],fun k hk=>by cases hk⟩
   ·cases h
  ·cases h
 case makeMap t rv =>
  cases rv with
  | some _=>cases h
  | none =>
   obtain ⟨hb,h⟩:=ak h;cases h;simp only [Bool.and_eq_true]at hb;have hn:=hw.none_place (iq hb.1.2)
   have hfr:=dR.freshMap (w':=w.alloc (.map #[] 0)) hw hn (b:=w.heap.size) (cl:=0) (Nat.le_refl _) (fun r hr=>bF w _ hr) (dF w _) 0 0;refine ⟨.value (.map (some w.heap.size)),w.alloc (.map #[] 0),I,mZ ρ (site o) ⟨w.heap.size,0,0,0⟩,by rfl,.inl ⟨_,rfl,.one ⟨[_],.mp _ (aU _ _ _) rfl (fun _=>rfl),rfl⟩⟩,Ev.fresh hn (Nat.le_refl _) (fun r hr=>bF w _ hr) (by simp) rfl rfl ⟨rfl,by first | exact Nat.le_refl _ | exact Nat.le_succ _⟩,by simpa [je]using hfr⟩
 case lookup t x k ok =>
  split at h
  ·rename_i g gs';simp only [Option.bind_eq_some_iff]at h;obtain ⟨b,h1,b2,h2,h⟩:=h;split at h
   ·rename_i id kt vt hb hk;split at h
    ·rename_i es hm;obtain ⟨hbb,h⟩:=ak h;cases h;simp only [Bool.and_eq_true]at hbb;simp only [aB]at hc;obtain ⟨k1,k2,k3⟩:=hc;have hx:=aI hs hG h1 k1
     rw [hb]at hx;have hkk:=(aI hs hG h2 k2).rep1 (gq hbb.1.2)
     obtain ⟨u,g1,g2⟩:=Ai hT hE hw hm hk (hx.rep1 (fun _=>by simp)) hkk hbb.1.1 hbb.1.2 hbb.2 (jg hG k3);exact ⟨_,w,I,ρ,bg g1,.inl ⟨u,rfl,g2⟩,Ev.refl _ _ _,hw⟩
    ·cases h
   ·cases h
  ·cases h
 case mapUpdate t x k v =>
  split at h
  ·rename_i g gs';simp only [Option.bind_eq_some_iff]at h;obtain ⟨b,h1,b2,h2,b3,h3,es',h4,h⟩:=h;split at h
   ·rename_i id kt vt hb hk;split at h
    ·rename_i es hm;obtain ⟨hbb,h⟩:=ak h;cases h;simp only [Bool.and_eq_true]at hbb;simp only [aB]at hc;obtain ⟨k1,k2,k3,k4⟩:=hc;have hx:=aI hs hG h1 k1
     rw [hb]at hx;obtain ⟨⟨⟨⟨b1,b2'⟩,b3'⟩,b4⟩,b5⟩:=hbb;obtain ⟨w',g1,g2,g3⟩:=nP hT hE hw hm hk (hx.rep1 (fun _=>by simp)) ((aI hs hG h2 k2).rep1 (gq b3')) ((aI hs hG h3 k3).rep1 (gq b4)) b2' b3' k4;exact ⟨_,w',I,ρ,nH g1,.inr ⟨rfl,yR b5⟩,g2,by simpa [je]using g3⟩
    ·cases h
   ·cases h
  ·cases h
 case insert t x k v =>
  split at h
  ·rename_i g gs';simp only [Option.bind_eq_some_iff]at h;obtain ⟨b,h1,b2,h2,b3,h3,es',h4,h⟩:=h;split at h
   ·rename_i id kt vt hb hk;split at h
    ·rename_i es hm;obtain ⟨hbb,h⟩:=ak h;cases h;simp only [Bool.and_eq_true]at hbb;simp only [aB]at hc;obtain ⟨k1,k2,k3,k4⟩:=hc;have hx:=aI hs hG h1 k1
     rw [hb]at hx;obtain ⟨⟨⟨⟨b1,b2'⟩,b3'⟩,b4⟩,b5⟩:=hbb;obtain ⟨w',g1,g2,g3⟩:=nP hT hE hw hm hk (hx.rep1 (fun _=>by simp)) ((aI hs hG h2 k2).rep1 (gq b3')) ((aI hs hG h3 k3).rep1 (gq b4)) b2' b3' k4;exact ⟨_,w',I,ρ,nH g1,.inr ⟨rfl,yR b5⟩,g2,by simpa [je]using g3⟩
    ·cases h
   ·cases h
  ·cases h
 case call c =>
  split at h
  ·rename_i x y t t' hcal hargs htys;simp only [Option.bind_eq_some_iff]at h;obtain ⟨b,h1,b',h2,h⟩:=h;split at h
   ·rename_i e hk;simp only [Option.bind_eq_some_iff]at h;obtain ⟨q,hq,r',hr',h⟩:=h;obtain ⟨hbb,h⟩:=ak h;cases h;simp only [Bool.and_eq_true]at hbb;have ett:=Nat.eq_of_beq_eq_true hbb.1.2
    subst ett;have ha:c.args = #[x,y]:=by apply Array.ext';simpa using hargs
    have ht:c.argTypes = #[t,t]:=by apply Array.ext';simpa using htys
    simp only [aB]at hc;obtain ⟨k1,k2,k3,k4,k5⟩:=hc;obtain ⟨w',I',ρ',g1,g2,g3⟩:=Gp (P:=P) (ty:=o.type) hT hw hk ((aI hs hG h1 k1).rep1 (Bq hr')) ((aI hs hG h2 k2).rep1 (zB hq)) hq hr' k5 k3 k4;exact ⟨.value (.int .i64 r'.1),w',I',ρ',by simp [resolve,hcal,invoke,builtin,ha,ht,g1],.inl ⟨_,rfl,cZ rfl⟩,g2,g3⟩
   ·cases h
  ·rename_i x y t t' hcal hargs htys;split at h
   ·rename_i g gs';obtain ⟨_,h⟩:=ak h;simp only [Option.bind_eq_some_iff]at h;obtain ⟨b,h1,b',h2,h⟩:=h;split at h
    ·rename_i e hk;simp only [Option.bind_eq_some_iff]at h;obtain ⟨q,hq,r',hr',h⟩:=h;obtain ⟨hbb,h⟩:=ak h;cases h;simp only [Bool.and_eq_true]at hbb;have ett:=Nat.eq_of_beq_eq_true hbb.1
     subst ett;have ha:c.args = #[x,y]:=by apply Array.ext';simpa using hargs
     have ht:c.argTypes = #[t,t]:=by apply Array.ext';simpa using htys
     simp only [aB]at hc;obtain ⟨k1,k2,k3,k4,k5⟩:=hc;obtain ⟨sb,sl,sc,hy,hle⟩:=FX hw ((aI hs hG h1 k1).rep1 (zZ hr')) hr' k4;obtain ⟨a0,c0,news,g1,_⟩:=oW (P:=P) hT hw (iw hbb.2) ((aI hs hG h2 k2).rep1 (zC hq)) hq k3;obtain ⟨ti,hti,_⟩:=hT.info e (hT.slice t e hk);have h0:=nG (P:=P) t o.type e ti (hT.sli hk).1 hti sb sl sc hle a0 c0 w
     have hrun:(Builtin.append_ #[t,t] o.type #[a.eval x,a.eval y]).run P w = .ok (a.eval x) w:=by
      rw [hy];simp only [aj]at k5;rcases g1 with g1 | ⟨g1,_⟩
      ·rw [g1,k5];exact h0.1
      ·rw [g1];exact h0.2
     exact ⟨.value (a.eval x),w,I,ρ,by simp [resolve,hcal,invoke,builtin,ha,ht,hrun],.inl ⟨_,rfl,aI hs hG h1 k1⟩,Ev.refl _ _ _,by simpa [je]using hw⟩
    ·cases h
   ·cases h
  ·rename_i x t hcal hargs htys;simp only [Option.bind_eq_some_iff]at h;obtain ⟨b,h1,h⟩:=h;split at h
   ·rename_i id n i len cap e hb hk;split at h
    ·rename_i B hm;obtain ⟨hbb,h⟩:=ak h;cases h;simp only [Bool.and_eq_true]at hbb;have ety:=Nat.eq_of_beq_eq_true hbb.1.2
     subst ety;have ha:c.args = #[x]:=by apply Array.ext';simpa using hargs
     have ht:c.argTypes = #[t]:=by apply Array.ext';simpa using htys
     simp only [aB]at hc;obtain ⟨k1,k2,k3⟩:=hc;have hx:=aI hs hG h1 k1
     rw [hb]at hx;obtain ⟨w',g1,g2,g3⟩:=Du (P:=P) (ty:=o.type) hT hw hm hk (hx.rep1 (fun _=>by simp)) (by simpa [nC,hm,aj]using k2) k3 hbb.2;exact ⟨.value (.tuple #[]),w',I,ρ,by simp [resolve,hcal,invoke,builtin,ha,ht,g1],.inl ⟨_,rfl,.tup _ rfl (fun i c hi=>by simp at hi)⟩,g2,by simpa [je]using g3⟩
    ·cases h
   ·cases h
  ·cases h
theorem OX {st:St} {G:D} (hG:¬ G.tr) {gs:List CG} {o:Oper} {r:R×List CG} (h:evX T st G gs o=some r):r.1.d=[]:=by
 unfold evX at h;cases hop:o.op <;> rw [hop]at h <;> (try dsimp only at h) <;> try (cases h;done)
 case slice t x lo hi mx =>
  simp only [Option.bind_eq_some_iff]at h;obtain ⟨b,h1,l,h2,hh,h3,q,h4,r',h5,h⟩:=h;obtain ⟨hb,h⟩:=ak h;cases h;rfl
 case buildSlice t len ps =>
  split at h
  ·obtain ⟨_,h⟩:=ak h;simp only [Option.bind_eq_some_iff]at h;obtain ⟨l,h1,h⟩:=h;split at h
   ·obtain ⟨hb,h⟩:=ak h;simp only [Bool.and_eq_true]at hb;exact absurd (jE hb.1.1.1.1.1.1) hG
   ·cases h
  ·cases h
 case makeMap t rv =>
  cases rv with
  | some _=>cases h
  | none =>
   obtain ⟨hb,h⟩:=ak h;simp only [Bool.and_eq_true]at hb;exact absurd (jE hb.1.1) hG
 case lookup t x k ok =>
  split at h
  ·simp only [Option.bind_eq_some_iff]at h;obtain ⟨b,h1,b2,h2,h⟩:=h;split at h
   ·split at h
    ·obtain ⟨hbb,h⟩:=ak h;cases h;rfl
    ·cases h
   ·cases h
  ·cases h
 case mapUpdate t x k v =>
  split at h
  ·simp only [Option.bind_eq_some_iff]at h;obtain ⟨b,h1,b2,h2,b3,h3,es',h4,h⟩:=h;split at h
   ·split at h
    ·obtain ⟨hbb,h⟩:=ak h;simp only [Bool.and_eq_true]at hbb;exact absurd (jE hbb.1.1.1.1) hG
    ·cases h
   ·cases h
  ·cases h
 case insert t x k v =>
  split at h
  ·simp only [Option.bind_eq_some_iff]at h;obtain ⟨b,h1,b2,h2,b3,h3,es',h4,h⟩:=h;split at h
   ·split at h
    ·obtain ⟨hbb,h⟩:=ak h;simp only [Bool.and_eq_true]at hbb;exact absurd (jE hbb.1.1.1.1) hG
    ·cases h
   ·cases h
  ·cases h
 case call c =>
  split at h
  ·simp only [Option.bind_eq_some_iff]at h;obtain ⟨b,h1,b',h2,h⟩:=h;split at h
   ·simp only [Option.bind_eq_some_iff]at h;obtain ⟨q,hq,r',hr',h⟩:=h;obtain ⟨hbb,h⟩:=ak h;simp only [Bool.and_eq_true]at hbb;exact absurd (jE hbb.1.1) hG
   ·cases h
  ·split at h
   ·obtain ⟨_,h⟩:=ak h;simp only [Option.bind_eq_some_iff]at h;obtain ⟨b,h1,b',h2,h⟩:=h;split at h
    ·simp only [Option.bind_eq_some_iff]at h;obtain ⟨q,hq,r',hr',h⟩:=h;obtain ⟨hbb,h⟩:=ak h;cases h;rfl
    ·cases h
   ·cases h
  ·simp only [Option.bind_eq_some_iff]at h;obtain ⟨b,h1,h⟩:=h;split at h
   ·split at h
    ·obtain ⟨hbb,h⟩:=ak h;simp only [Bool.and_eq_true]at hbb;exact absurd (jE hbb.1.1) hG
    ·cases h
   ·cases h
  ·cases h
end
section
variable {P:Program} {T:Nat→TI} {N:Nat}
theorem Rq {AC:ACT} {st:St} {G:D} (hG:¬ G.tr) {gs:List CG} {o:Oper} {r:R×List CG} (h:evK T AC st G gs o=some r):r.1.d=[]:=by
 unfold evK at h;split at h
 ·rename_i c g gs' hop;split at h
  ·simp only [Option.bind_eq_some_iff]at h;obtain ⟨fa,h1,l,h2,h⟩:=h;split at h
   ·simp only [Option.bind_eq_some_iff]at h;obtain ⟨fz,h3,h⟩:=h;obtain ⟨hb,h⟩:=ak h;cases h;rfl
   ·cases hlk:Ez g with
    | true =>
     simp only [hlk,cond_true,Option.bind_eq_some_iff]at h;obtain ⟨vw,h3,B,h4,h⟩:=h;obtain ⟨hb,h⟩:=ak h;simp only [Bool.and_eq_true]at hb;exact absurd (jE hb.1.1.1) hG
    | false =>
     simp only [hlk,cond_false,Option.bind_eq_some_iff]at h;obtain ⟨vw,h3,B,h4,h⟩:=h;obtain ⟨hb,h⟩:=ak h;simp only [Bool.and_eq_true]at hb;exact absurd (jE hb.1.1.1.1.1) hG
   ·cases h
  ·cases h
 ·cases h
theorem AZ {st:St} {G:D} {o:Oper} {r:R} (h:evW T st G o=some r):G.tr:=by
 unfold evW at h;exact jE (ak h).1
theorem Ro {AC:ACT} {st:St} {G:D} (hG:¬ G.tr) {gs:List CG} {o:Oper} {r:R×List CG} (h:evO T AC st G gs o=some r):r.1.d=[]:=by
 unfold evO at h;split at h
 ·simp only [Option.bind_eq_some_iff,Option.some.injEq]at h;obtain ⟨r',hr,rfl⟩:=h;rfl
 ·simp only [Option.bind_eq_some_iff,Option.some.injEq]at h;obtain ⟨r',hr,rfl⟩:=h;exact absurd (AZ hr) hG
 ·exact OX hG h
 ·split at h
  ·cases hmn:Ar _ with
   | true=>rw [hmn]at h;exact OX hG h
   | false =>
    rw [hmn]at h;simp only [cond_false,Option.bind_eq_some_iff,Option.some.injEq]at h;obtain ⟨r',hr,rfl⟩:=h;exact absurd (AZ hr) hG
  ·simp only [Option.bind_eq_some_iff,Option.some.injEq]at h;obtain ⟨r',hr,rfl⟩:=h;exact absurd (AZ hr) hG
 ·split at h
  ·cases hmn:IU _ with
   | true=>rw [hmn]at h;exact OX hG h
   | false =>
    rw [hmn]at h;simp only [cond_false,Option.bind_eq_some_iff,Option.some.injEq]at h;obtain ⟨r',hr,rfl⟩:=h;exact absurd (AZ hr) hG
  ·simp only [Option.bind_eq_some_iff,Option.some.injEq]at h;obtain ⟨r',hr,rfl⟩:=h;exact absurd (AZ hr) hG
 ·exact Rq hG h
theorem xM {a:Act} {d k:Nat} {v:Value} (hd:d<a.tmps.size):(a.put (some d) v).tmps.getD k undef=if k=d then v else a.tmps.getD k undef:=by
 simp only [Act.put];by_cases hk:k=d
 ·subst hk;simp [hd]
 ·rw [if_neg hk];simp [Array.getElem?_setIfInBounds_ne (Ne.symm hk)]
def St.after (st:St) (o:Oper) (G:D) (r:R):St:={ (st.put o.dst (G,r.v))with m:=je st.m r.d}
theorem vT (st:St) (o:Oper) (G:D) (r:R) (k:Nat):(st.after o G r).t k=match o.dst with | some d=>if k=d then some (G,r.v)else st.t k | none=>st.t k:=by
 unfold St.after St.put;cases o.dst with
 | none=>rfl
 | some d =>
  simp only [Hz];by_cases h:k=d
  ·subst h;simp
  ·simp [h,gQ h]
theorem jA {e:Entry} {I I':Imm} {ρ ρ':Pl} {st:St} {a:Act} {w w':World} (hs:dU T N e I ρ st a w) {o:Oper} {G:D} {r:R} {v:Value} (hnt:yS e.nt o.dst=true)
 (hv:o.dst=none∨((G.tr→gI T N I' ρ' r.v v)∧(¬ G.tr→v=undef))) (hev:Ev I ρ w I' ρ' w') (hw:dR T N I' ρ' (je st.m r.d) w'):dU T N e I' ρ' (st.after o G r) (a.put o.dst v) w' where
 wr:=hw
 tm:=fun t d x ht=>by
  rw [vT]at ht;cases hd:o.dst with
  | none =>
   rw [hd]at ht;obtain ⟨h1,h2⟩:=hs.tm t d x ht;exact ⟨fun h=>(h1 h).mono hev.imm hev.pl,h2⟩
  | some k =>
   rw [hd]at ht hv hnt;simp only at ht;have hk:k<a.tmps.size:=by rw [hs.nt];simpa [yS,Nat.blt_eq]using hnt
   rw [xM hk];by_cases htk:t=k
   ·rw [if_pos htk]at ht ⊢;cases ht;rcases hv with hv | hv
    ·cases hv
    ·exact hv
   ·rw [if_neg htk]at ht ⊢;obtain ⟨h1,h2⟩:=hs.tm t d x ht;exact ⟨fun h=>(h1 h).mono hev.imm hev.pl,h2⟩
 nt:=by
  rw [← hs.nt];cases o.dst <;> simp [Act.put]
 df:=by
  have h1:=hs.df.1.ev hev;have h2:=hs.df.2
  cases o.dst <;> exact ⟨h1,h2⟩
 ev:=hs.ev.trans hev
 eb:=hs.eb
theorem l9 {e:Entry} {I:Imm} {ρ:Pl} {st:St} {a:Act} {w:World} (hs:dU T N e I ρ st a w) {ops:Array Oper} {o:Oper} {G:D} (h:jM ops.toList st o=some G):G.tr↔Region.wanted o (yielded ops a.tmps)=true:=by
 unfold jM at h;unfold Region.wanted;split at h
 ·rename_i hg;cases h;simp [hg,D.tr]
 ·rename_i j wt hg;simp only [Option.bind_eq_some_iff]at h;obtain ⟨oj,h1,d,h2,h3⟩:=h;have h1':ops[j]? = some oj:=by rw [← h1,Array.getElem?_toList]
  have hget:∀ x:Value,x≠undef→a.tmps.getD d undef=x→a.tmps[d]? = some x:=by
   intro x hx h;cases hd:a.tmps[d]? with
   | none=>simp [hd]at h;exact absurd h.symm hx
   | some y=>simp [hd]at h;rw [h]
  have hund:∀ b,Value.bool b≠undef:=fun b=>by simp [undef]
  have hy:∀ x,(a.tmps.getD d undef = .bool x→yielded ops a.tmps j=some x):=by
   intro x hx;simp [yielded,h1',h2,hget _ (hund x) hx]
  have hn:a.tmps.getD d undef=undef→yielded ops a.tmps j=none:=by
   intro hx;cases hd:a.tmps[d]? with
   | none=>simp [yielded,h1',h2,hd]
   | some y =>
    simp [hd]at hx;subst hx;simp [yielded,h1',h2,hd,undef]
  have hcond:∀ (w b:Bool),cond w b (!b)=true↔b=w:=by intro w b;cases w <;> cases b <;> simp
  split at h3
  ·rename_i b hb;have h3:G = .when (cond wt b (!b)):=by cases wt <;> (simp only [cond_true,cond_false,Option.some.injEq]at h3;exact h3.symm)
   subst h3;obtain ⟨e,_⟩:=((hs.tm d _ _ hb).1 trivial).v;simp only [hg,hy b e,D.tr,hcond,beq_iff_eq,Option.some.injEq]
  ·rename_i g b hb;have h3:G = .when (g&&cond wt b (!b)):=by cases wt <;> (simp only [cond_true,cond_false,Option.some.injEq]at h3;exact h3.symm)
   subst h3;by_cases hgt:g=true
   ·obtain ⟨e,_⟩:=((hs.tm d _ _ hb).1 hgt).v;simp only [hg,hy b e,D.tr,hgt,Bool.true_and,hcond,beq_iff_eq,Option.some.injEq]
   ·have e:=(hs.tm d _ _ hb).2 hgt;have hgf:g=false:=by simpa using hgt
    simp [hg,hn e,D.tr,hgf]
  ·cases h3
theorem Dc {AC:ACT} {st:St} {G:D} {gs:List CG} {o:Oper} {r:R×List CG} (h:evO T AC st G gs o=some r):∀ c,o.op ≠ .defer c:=by
 intro c hc;simp [evO,cls,evR,hc]at h
def jH (r:Option Nat):Fence:={ Fence.wide with round:=r}
theorem yV {r:Option Nat} {n:Nat} {f:FuncId} {args:Array Value} {w:World} {R:Ending→World→Prop}:CallsIn (jH r) n P f args w R↔Calls P f args w R:=callsIn_wide (n:=n)
theorem qL (hT:TOK P T N) (hE:xH P T N) {e:Entry} {I:Imm} {ρ:Pl} {st:St} {a:Act} {w:World} (hs:dU T N e I ρ st a w) {ops:Array Oper} {o:Oper} {G:D} {gs:List CG} {r:R×List CG}
 (hg:jM ops.toList st o=some G) (h:evO T (AC P T N) st G gs o=some r) (hc:aj r.1.c) (hnt:yS e.nt o.dst=true) {K:Act→World→Prop} {Q:Exit→Act→World→Prop}
 (hK:∀ I' ρ' a' w',dU T N e I' ρ' (st.after o G r.1) a' w'→K a' w') (rd:Option Nat) (n:Nat) :
 if Region.wanted o (yielded ops a.tmps)=true then o.wpIn (jH rd) n P a w K Q else K (a.put o.dst undef) w:=by
 have hwant:=l9 hs hg;by_cases hG:G.tr
 ·rw [if_pos (hwant.1 hG)];unfold Oper.wpIn;refine ⟨fun _ _=>trivial,?_⟩;rw [Oper.semAt_eq _ _ _ (Dc h)];have did:∀ {r1:R},r1=r.1→Did P T N o I ρ st.m r1 (fun w=>(execOp a.eval o).run P w) w→Oper.uponIn (jH rd) n P o a K Q ((execOp a.eval o).run P w):=by
   rintro r1 rfl ⟨nx,w',I',ρ',h1,h2,h3,h4⟩;simp only at h1;rw [h1];rcases h2 with ⟨u,rfl,h2⟩ | ⟨rfl,h2⟩
   ·exact hK _ _ _ _ (jA hs hnt (.inr ⟨fun _=>h2,fun h=>absurd hG h⟩) h3 h4)
   ·exact hK _ _ _ _ (jA hs hnt (.inl h2) h3 h4)
  unfold evO at h;split at h
  ·simp only [Option.bind_eq_some_iff,Option.some.injEq]at h;obtain ⟨r',hr,rfl⟩:=h;obtain ⟨u,h1,h2⟩:=Ji hT hE hs hG hr hc;rw [h1];exact hK _ _ _ _ (jA hs hnt (.inr ⟨fun _=>h2,fun h=>absurd hG h⟩) (Ev.refl _ _ _) hs.wr)
  ·simp only [Option.bind_eq_some_iff,Option.some.injEq]at h;obtain ⟨r',hr,rfl⟩:=h;exact did rfl (nZ hT hs hr hc).2
  ·exact did rfl (vK hT hE hs hG h hc)
  ·split at h
   ·cases hmn:Ar _ with
    | true=>rw [hmn]at h;exact did rfl (vK hT hE hs hG h hc)
    | false =>
     rw [hmn]at h;simp only [cond_false,Option.bind_eq_some_iff,Option.some.injEq]at h;obtain ⟨r',hr,rfl⟩:=h;exact did rfl (nZ hT hs hr hc).2
   ·simp only [Option.bind_eq_some_iff,Option.some.injEq]at h;obtain ⟨r',hr,rfl⟩:=h;exact did rfl (nZ hT hs hr hc).2
  ·split at h
   ·cases hmn:IU _ with
    | true=>rw [hmn]at h;exact did rfl (vK hT hE hs hG h hc)
    | false =>
     rw [hmn]at h;simp only [cond_false,Option.bind_eq_some_iff,Option.some.injEq]at h;obtain ⟨r',hr,rfl⟩:=h;exact did rfl (nZ hT hs hr hc).2
   ·simp only [Option.bind_eq_some_iff,Option.some.injEq]at h;obtain ⟨r',hr,rfl⟩:=h;exact did rfl (nZ hT hs hr hc).2
  ·obtain ⟨f,vs,h1,h2⟩:=Jj hT hs hG h hc;simp only at h1;rw [h1];refine ⟨fun h=>(by cases h),yV.2 (h2.mono ?_)⟩;rintro ex w' ⟨v,I',ρ',rfl,g1,g2,g3⟩;exact hK _ _ _ _ (jA hs hnt (.inr ⟨fun _=>g2,fun h=>absurd hG h⟩) g1 g3)
 ·rw [if_neg (fun e=>hG (hwant.2 e))];have hd:=Ro hG h
  exact hK _ _ _ _ (jA hs hnt (.inr ⟨fun h=>absurd h hG,fun _=>rfl⟩) (Ev.refl _ _ _) (by rw [hd];exact hs.wr))
theorem Bc (hT:TOK P T N) (hE:xH P T N) {e:Entry} {ops:Array Oper} {Q:Exit→Act→World→Prop}:∀ (l:List Oper) (s s':RS) {I:Imm} {ρ:Pl} {a:Act} {w:World},dU T N e I ρ s.st a w →
 evL T (AC P T N) e.nt ops.toList l s=some s'→aj s'.c→(∀ I' ρ' a' w',dU T N e I' ρ' s'.st a' w'→Q .normal a' w')→(rd:Option Nat)→(n:Nat)→aj s.c∧wpListIn (jH rd) n P ops Q l a w
 | [],s,s',I,ρ,a,w,hs,h,hc,hQ,rd,n=>by cases h;exact ⟨hc,hQ _ _ _ _ hs⟩
 | o::r,s,s',I,ρ,a,w,hs,h,hc,hQ,rd,n=>by
  simp only [evL,Option.bind_eq_some_iff]at h;obtain ⟨G,h1,x,h2,h3⟩:=h;obtain ⟨hnt,h3⟩:=ak h3;have key:∀ {I':Imm} {ρ':Pl} {a':Act} {w':World},dU T N e I' ρ' (s.st.after o G x.1) a' w'→aj (fG s.c x.1.c)∧wpListIn (jH rd) n P ops Q r a' w':=fun hs'=>Bc hT hE r _ s' hs' h3 hc hQ rd n
  have hcc:aj (fG s.c x.1.c):=by
   clear key;have:∀ (l:List Oper) (s1:RS),evL T (AC P T N) e.nt ops.toList l s1=some s'→aj s1.c:=by
    intro l
    induction l with
    | nil=>intro s1 h;cases h;exact hc
    | cons o r ih =>
     intro s1 h;simp only [evL,Option.bind_eq_some_iff]at h;obtain ⟨G,h1,x,h2,h3⟩:=h;obtain ⟨_,h3⟩:=ak h3;have:=ih _ h3
     simp only at this;rw [aB]at this;exact this.1
   exact this _ _ h3
  rw [aB]at hcc;refine ⟨hcc.1,?_⟩;have hst:=qL (ops:=ops) (Q:=Q) (K:=wpListIn (jH rd) n P ops Q r) hT hE hs h1 h2 hcc.2 hnt (fun I' ρ' a' w' hs'=>(key hs').2) rd n
  unfold wpListIn;by_cases hw:Region.wanted o (yielded ops a.tmps)=true
  ·rw [if_pos hw]at hst ⊢;exact hst
  ·rw [if_neg hw]at hst ⊢;exact ⟨fun _ _=>trivial,hst⟩
end
def tmpsOf (o:Oper):List Nat:=o.op.operands.toList.filterMap fun | .tmp t=>some t | _=>none
theorem yO {o:Oper} {st st':St} (h:∀ k∈tmpsOf o,st'.t k=st.t k) {x:Operand} (hx:x∈o.op.operands):ev st' x=ev st x:=by
 cases x with
 | tmp t =>
  refine h t ?_;simp only [tmpsOf,List.mem_filterMap];exact ⟨.tmp t,by simpa using hx,rfl⟩
 | _=>rfl
theorem jU {st st':St} {G:D}:∀ {xs:List Operand},(∀ x∈xs,ev st' x=ev st x)→needs G st' xs=needs G st xs
 | [],_=>rfl
 | x::xs,h=>by
  simp only [needs];rw [h x (by simp),jU (fun y hy=>h y (by simp [hy]))]
theorem uK {st st':St} {G:D} {x:Option Operand} (h:∀ y,x=some y→ev st' y=ev st y):Np G st' x=Np G st x:=by
 cases x with
 | none=>rfl
 | some y=>simp only [Np];rw [h y rfl]
section
variable {T:Nat→TI} {m m':Id→Option Ob}
theorem Lh {t:Nat} {x:AV} {r:AV×List Id} (h:ldA T m t x=some r) (hm:∀ id∈r.2,m' id=m id):ldA T m' t x=some r∧nOf m' x=nOf m x:=by
 unfold ldA at h ⊢;split at h
 ·rename_i id n i p;have h0:=h
  split at h
  ·obtain ⟨hb,h⟩:=ak h;cases h;have e:=hm id (by simp)
   simp only [nOf,nC,e];exact ⟨h0,tt⟩
  ·cases h
 ·exact ⟨h,rfl⟩
 ·cases h
theorem CZ {t k:Nat} {x:AV} {r:AV×List Id} (h:vJ T t k m x=some r) (hm:∀ id∈r.2,m' id=m id):vJ T t k m' x=some r∧nOf m' x=nOf m x:=by
 unfold vJ at h ⊢;split at h
 ·rename_i id n i p;have h0:=h
  split at h
  ·obtain ⟨hb,h⟩:=ak h;cases h;have e:=hm id (by simp)
   simp only [nOf,nC,e];exact ⟨h0,tt⟩
  ·cases h
 ·exact ⟨h,rfl⟩
 ·cases h
theorem IX {t:Nat} {j:Int} {x:AV} {r:AV×List Id×Prop} (h:OG T t j m x=some r) (hm:∀ id∈r.2.1,m' id=m id):OG T t j m' x=some r∧nOf m' x=nOf m x:=by
 unfold OG at h ⊢;split at h
 ·rename_i id n i p;have h0:=h
  split at h
  ·obtain ⟨hb,h⟩:=ak h;cases h;have e:=hm id (by simp)
   simp only [nOf,nC,e];exact ⟨h0,tt⟩
  ·cases h
 ·exact ⟨h,rfl⟩
 ·exact ⟨h,rfl⟩
 ·rename_i id n i len cap;have h0:=h
  split at h
  ·obtain ⟨hb,h⟩:=ak h;cases h;have e:=hm id (by simp)
   simp only [nOf,nC,e];exact ⟨h0,tt⟩
  ·cases h
 ·rename_i id n i p lo len hi;have h0:=h
  split at h
  ·obtain ⟨hb,h⟩:=ak h;cases h;have e:=hm id (by simp)
   simp only [nOf,nC,e];exact ⟨h0,tt⟩
  ·cases h
 ·cases h
theorem IK {t:Nat} {x:AV} {r:AV×List Id} (h:F9 T m t x=some r) (hm:∀ id∈r.2,m' id=m id):F9 T m' t x=some r∧nOf m' x=nOf m x:=by
 unfold F9 at h;split at h
 ·rename_i hk;cases h;exact ⟨by simp [F9,hk],rfl⟩
 ·rename_i id n i len cap hk;split at h
  ·rename_i B hB;cases h;have e:=hm id (by simp)
   exact ⟨by simp [F9,hk,e,hB],by simp only [nOf,nC,e]⟩
  ·cases h
 ·rename_i id n i p lo len hi hk;split at h
  ·rename_i B hB;cases h;have e:=hm id (by simp)
   exact ⟨by simp [F9,hk,e,hB],by simp only [nOf,nC,e]⟩
  ·cases h
 ·rename_i hk;cases h;exact ⟨by simp [F9,hk],rfl⟩
 ·rename_i hk;cases h;exact ⟨by simp [F9,hk],rfl⟩
 ·cases h
theorem mX {e:Nat} {x:AV} {r:Nat×(Nat→AV)×List Id} (h:JU T m e x=some r) (hm:∀ id∈r.2.2,m' id=m id):JU T m' e x=some r∧nOf m' x=nOf m x:=by
 unfold JU at h ⊢;split at h
 ·exact ⟨h,rfl⟩
 ·rename_i id n i len cap;have h0:=h
  split at h
  ·obtain ⟨hb,h⟩:=ak h;cases h;have e:=hm id (by simp)
   simp only [nOf,nC,e];exact ⟨h0,tt⟩
  ·cases h
 ·rename_i id n i p lo len hi;have h0:=h
  split at h
  ·obtain ⟨hb,h⟩:=ak h;cases h;have e:=hm id (by simp)
   simp only [nOf,nC,e];exact ⟨h0,tt⟩
  ·cases h
 ·cases h
theorem Dz {op:BinOp} {t:Nat} {x y:AV} {r:AV×Id×Option Prop} (h:su T m op t x y=some r) (hm:m' r.2.1=m r.2.1):su T m' op t x y=some r:=by
 have h0:=h;unfold su at h ⊢;split at h
 ·split at h
  ·simp only [Option.bind_eq_some_iff,Option.some.injEq]at h;obtain ⟨ra,hra,rfl⟩:=h;simp only at hm;unfold su at h0;rw [hm];exact h0
  ·cases h
 ·cases h
theorem JJ {m:Id→Option Ob} {op:BinOp} {t:Nat} {x y:AV} {r:AV×Option Prop} (h:Bd T op t x y=some r):su T m op t x y=none:=by
 unfold su;split
 ·exfalso;simp [Bd,noC,Ad]at h
 ·rfl
theorem GY {e:Nat} {x:AV} {r:Nat×(Nat→AV)×List Id} (h:Na T m e x=some r) (hm:∀ id∈r.2.2,m' id=m id):Na T m' e x=some r∧nOf m' x=nOf m x:=by
 unfold Na at h ⊢;split at h
 ·rename_i id n i p lo len hi;have h0:=h
  split at h
  ·obtain ⟨hb,h⟩:=ak h;cases h;have e:=hm id (by simp)
   simp only [nOf,nC,e];exact ⟨h0,tt⟩
  ·cases h
 ·exact mX h hm
theorem Ku {t:Nat} {lo hi mx:Option Int} {x:AV} {r:AV×List Id×Prop} (h:slA T t lo hi mx m x=some r) (hm:∀ id∈r.2.1,m' id=m id):slA T t lo hi mx m' x=some r∧nOf m' x=nOf m x:=by
 unfold slA at h ⊢;split at h
 ·exact ⟨h,rfl⟩
 ·rename_i id n i len cap;have h0:=h
  split at h
  ·obtain ⟨hb,h⟩:=ak h;have e:m' id=m id:=by
    refine hm id ?_;split at h <;> cases h <;> simp
   simp only [nOf,nC,e];exact ⟨h0,tt⟩
  ·cases h
 ·rename_i id n i p;have h0:=h
  split at h
  ·obtain ⟨hb,h⟩:=ak h;cases h;have e:=hm id (by simp)
   simp only [nOf,nC,e];exact ⟨h0,tt⟩
  ·cases h
 ·exact ⟨h,rfl⟩
 ·cases h
theorem IB {m m':Id→Option Ob} {x:AV} {r:List Id×Option Prop} (h:Oq m x=some r) (hm:∀ id∈r.1,m' id=m id):Oq m' x=some r:=by
 unfold Oq at h ⊢;split at h
 ·exact h
 ·exact h
 ·rename_i id n i len cap;split at h
  ·rename_i B hB;cases h;simp only [hm id (by simp),hB]
  ·cases h
 ·cases h
theorem Jy {e:Nat} {q:Nat×(Nat→AV)×List Id} {x:AV} {r:Nat×List (Id×Ob)×List Id×Prop} (h:Pg T m e q x=some r) (hm:∀ id∈r.2.2.1,m' id=m id):Pg T m' e q x=some r∧nOf m' x=nOf m x ∧ ∀ id∈q.2.2,id∈r.2.2.1:=by
 unfold Pg at h ⊢;split at h
 ·rename_i id n i p lo len hi;have h0:=h
  split at h
  ·simp only [Option.bind_eq_some_iff]at h;obtain ⟨ta,h1,h⟩:=h;split at h
   ·obtain ⟨hb,h⟩:=ak h;cases h;have e:=hm id (by simp)
    simp only [nOf,nC,e];exact ⟨h0,trivial,fun a ha=>by simp [ha]⟩
   ·cases h
  ·cases h
 ·cases h
theorem xB:∀ (x:AV),(∀ id∈IY x,m' id=m id)→sQ m' x=sQ m x∧dok m' x=dok m x
 | .v _,_=>⟨rfl,rfl⟩
 | .agg t n get,h=>by
  have ih:=fun i (hi:i<n)=>xB (get i) (fun id hid=>h id (by
   simp only [IY,List.mem_flatMap,List.mem_range];exact ⟨i,hi,hid⟩))
  refine ⟨?_,?_⟩
  ·simp only [sQ];congr 1;funext i;by_cases hi:i<n
   ·rw [kT hi,kT hi,(ih i hi).1]
   ·have:Nat.blt i n=false:=by
     cases hb:Nat.blt i n with
     | false=>rfl
     | true=>rw [Nat.blt_eq]at hb;exact absurd hb hi
    rw [this];rfl
  ·simp only [dok];exact propext ⟨fun hh i hi=>(ih i hi).2▸hh i hi,fun hh i hi=>(ih i hi).2.symm▸hh i hi⟩
 | .tup _,_=>⟨rfl,rfl⟩
 | .row ..,_=>⟨rfl,rfl⟩
 | .own id n i len cap,h=>by
  have e:=h id (by simp [IY]);simp only [sQ,dok,e];exact ⟨trivial,tt⟩
 | .arr ..,_=>⟨rfl,rfl⟩
 | .ptr ..,_=>⟨rfl,rfl⟩
 | .rp ..,_=>⟨rfl,rfl⟩
 | .clo ..,_=>⟨rfl,rfl⟩
 | .mp _,_=>⟨rfl,rfl⟩
theorem Ja {x:AV} {r:AV×Option Prop×Bool×List Id} (h:PK T m x=some r) (hm:∀ id∈r.2.2.2,m' id=m id):PK T m' x=some r:=by
 unfold PK at h ⊢;split at h
 ·rename_i id n i len cap;have h0:=h
  split at h
  ·cases h;have e:=hm id (by simp)
   simp only [e];exact h0
  ·cases h
 ·rename_i id n i p lo len hi;have h0:=h
  split at h
  ·simp only [Option.bind_eq_some_iff,Option.some.injEq]at h;obtain ⟨e',h1,rfl⟩:=h;have e:=hm id (by simp)
   simp only [e];exact h0
  ·cases h
 ·cases h
 ·rename_i id n i p;have h0:=h
  split at h
  ·rename_i B hB;simp only [Option.bind_eq_some_iff,Option.some.injEq]at h;obtain ⟨t,ht,rfl⟩:=h;have e:=hm id (by simp)
   obtain ⟨d1,d2⟩:=xB (m:=m) (m':=m') ((B.get i).at p) (fun id' hid=>hm id' (List.mem_cons_of_mem _ hid));simp only [e,hB,ht,Option.bind_some,d1,d2]
  ·cases h
 ·exact h
theorem AA:∀ {xs:List AV} {r:List AV×Option Prop×Bool×List Id},OO T m xs=some r→(∀ id∈r.2.2.2,m' id=m id)→OO T m' xs=some r
 | [],r,h,_=>h
 | x::xs,r,h,hm=>by
  simp only [OO,Option.bind_eq_some_iff,Option.some.injEq]at h ⊢;obtain ⟨a,h1,l,h2,rfl⟩:=h;simp only [List.mem_append]at hm;exact ⟨a,Ja h1 (fun id hi=>hm id (.inl hi)),l,AA h2 (fun id hi=>hm id (.inr hi)),rfl⟩
theorem lH {d:List (Id×Ob)}:∀ {m m':Id→Option Ob} {id:Id},m' id=m id→je m' d id=je m d id:=by
 induction d with
 | nil=>intro m m' id h;exact h
 | cons x d ih =>
  intro m m' id h;simp only [je];refine ih ?_;by_cases hi:id=x.1
  ·subst hi;rw [bC,bC]
  ·rw [dL _ _ hi,dL _ _ hi,h]
theorem Fb {ids:List Id} {x:AV} {r:AV×List (Id×Ob)×Option Prop} (h:Fe ids m x=some r) (hm:∀ id∈r.2.1.map (·.1),m' id=m id):Fe ids m' x=some r:=by
 unfold Fe at h ⊢;split at h
 ·rename_i id n i len cap;cases hh:fV ids id with
  | true=>rw [hh]at h;exact h
  | false =>
   rw [hh]at h;simp only [cond_false]at h ⊢;have h0:=h
   split at h
   ·cases h;have e:=hm id (by simp)
    simp only [e];exact h0
   ·cases h
 ·cases h
 ·exact h
theorem qK {ids:List Id}:∀ {xs:List AV} {m m':Id→Option Ob} {r:List AV×List (Id×Ob)×Option Prop},zo ids m xs=some r→(∀ id∈r.2.1.map (·.1),m' id=m id)→zo ids m' xs=some r
 | [],_,_,r,h,_=>h
 | x::xs,m,m',r,h,hm=>by
  simp only [zo,Option.bind_eq_some_iff,Option.some.injEq]at h ⊢;obtain ⟨a,h1,l,h2,rfl⟩:=h;simp only [List.map_append,List.mem_append]at hm;exact ⟨a,Fb h1 (fun id hi=>hm id (.inl hi)),l,qK h2 (fun id hi=>lH (hm id (.inr hi))),rfl⟩
theorem uY:∀ {ids:List Id} {m m':Id→Option Ob},(∀ id∈ids,m' id=m id)→gets m' ids=gets m ids
 | [],_,_,_=>rfl
 | i::r,m,m',h=>by
  simp only [gets];rw [h i (by simp),uY (fun id hi=>h id (by simp [hi]))]
end
section
variable {T:Nat→TI}
theorem LV {st st':St} {G:D} {o:Oper} {r:AV×List Id×Option Prop} (h:evR T st G o=some r) (ht:∀ k∈tmpsOf o,st'.t k=st.t k) (hm:∀ id∈r.2.1,st'.m id=st.m id):evR T st' G o=some r:=by
 have hev:∀ x∈o.op.operands,ev st' x=ev st x:=fun x hx=>yO ht hx;unfold evR at h ⊢;cases hop:o.op <;> rw [hop]at h <;> (try dsimp only at h) <;> (try (cases h;done)) <;> (try dsimp only) <;> rw [hop]at hev <;> simp only [Op.operands]at hev
 case move x=>rw [hev x (by simp)];exact h
 case assign x=>rw [hev x (by simp)];exact h
 case pick c a b=>rw [hev c (by simp),hev a (by simp),hev b (by simp)];exact h
 case build t ps=>rw [jU (fun x hx=>hev x (by simpa using hx))];exact h
 case load t x =>
  rw [hev x (by simp)];simp only [Option.bind_eq_some_iff,Option.some.injEq]at h ⊢;obtain ⟨b,h1,r',h2,rfl⟩:=h;obtain ⟨g1,g2⟩:=Lh h2 hm;exact ⟨b,h1,r',g1,by rw [g2]⟩
 case nilCheck x =>
  rw [hev x (by simp)];simp only [Option.bind_eq_some_iff]at h ⊢;obtain ⟨b,h1,h2⟩:=h;refine ⟨b,h1,?_⟩;split at h2
  ·rename_i id n i p hb
   try simp only [hb]
   split at h2
   ·rename_i B hB;cases h2;rw [hm id (by simp)];simp only [hB]
   ·cases h2
  ·rename_i hb;(try simp only [hb]);exact h2
  ·rename_i hb;(try simp only [hb]);exact h2
  ·cases h2
 case fieldAddr t x k =>
  rw [hev x (by simp)];simp only [Option.bind_eq_some_iff,Option.some.injEq]at h ⊢;obtain ⟨b,h1,r',h2,rfl⟩:=h;obtain ⟨g1,g2⟩:=CZ h2 hm;exact ⟨b,h1,r',g1,by rw [g2]⟩
 case indexAddr t x i =>
  rw [hev x (by simp),hev i (by simp)];simp only [Option.bind_eq_some_iff]at h ⊢;obtain ⟨b,h1,bi,h2,h3⟩:=h;refine ⟨b,h1,bi,h2,?_⟩;split at h3
  ·rename_i k j hbi
   try simp only [hbi]
   simp only [Option.bind_eq_some_iff,Option.some.injEq]at h3 ⊢;obtain ⟨r',h4,rfl⟩:=h3;obtain ⟨g1,g2⟩:=IX h4 hm;exact ⟨r',g1,by rw [g2]⟩
  ·cases h3
 case field t x k=>rw [hev x (by simp)];exact h
 case index t x i=>rw [hev x (by simp),hev i (by simp)];exact h
 case binOp op t x y t' =>
  rw [hev x (by simp),hev y (by simp)];simp only [Option.bind_eq_some_iff]at h ⊢;obtain ⟨b1,h1,b2,h2,h⟩:=h;refine ⟨b1,h1,b2,h2,?_⟩;split at h
  ·rename_i r' hr';simp only [Option.some.injEq]at h;subst h;rw [Dz hr' (hm _ (by simp))]
  ·simp only [Option.bind_eq_some_iff]at h;obtain ⟨r',h3,h4⟩:=h;rw [JJ h3];simp only [Option.bind_eq_some_iff];exact ⟨r',h3,h4⟩
 case unOp op t x=>rw [hev x (by simp)];exact h
 case convert s d x=>rw [hev x (by simp)];exact h
 case extract x i=>rw [hev x (by simp)];exact h
 case makeFunc fn fst cs =>
  cases fn with
  | func f =>
   dsimp only at h ⊢;rw [jU (fun x hx=>hev x (by simp at hx;simp [hx]))];exact h
  | _=>cases h
 case call c =>
  split at h
  ·rename_i x hcal hargs;have ha:c.args = #[x]:=by apply Array.ext';simpa using hargs
   split at h
   ·rename_i t htys
    try simp only [hcal,hargs,htys]
    rw [hev x (by simp [Call.operands,ha])];simp only [Option.bind_eq_some_iff,Option.some.injEq]at h ⊢;obtain ⟨b,h1,r',h2,rfl⟩:=h;obtain ⟨g1,g2⟩:=IK h2 hm;exact ⟨b,h1,r',g1,by rw [g2]⟩
   ·cases h
  ·rename_i x y hcal hargs;have ha:c.args = #[x,y]:=by apply Array.ext';simpa using hargs
   try simp only [hcal,hargs]
   rw [hev x (by simp [Call.operands,ha]),hev y (by simp [Call.operands,ha])];exact h
  ·rename_i x y hcal hargs;have ha:c.args = #[x,y]:=by apply Array.ext';simpa using hargs
   try simp only [hcal,hargs]
   rw [hev x (by simp [Call.operands,ha]),hev y (by simp [Call.operands,ha])];exact h
  ·cases h
theorem LU {st st':St} {G:D} {o:Oper} {r:R} (h:evW T st G o=some r) (ht:∀ k∈tmpsOf o,st'.t k=st.t k) (hm:∀ id∈r.f,st'.m id=st.m id):evW T st' G o=some r:=by
 have hev:∀ x∈o.op.operands,ev st' x=ev st x:=fun x hx=>yO ht hx;unfold evW at h ⊢;obtain ⟨hs,h⟩:=ak h;rw [hs];simp only [cond_true];cases hop:o.op <;> rw [hop]at h <;> (try dsimp only at h) <;> (try (cases h;done)) <;> (try dsimp only) <;> rw [hop]at hev <;> simp only [Op.operands]at hev
 case alloc t =>
  have h0:=h;obtain ⟨hb,h⟩:=ak h;cases h;rw [hm _ (by simp)];exact h0
 case box t x =>
  rw [hev x (by simp)];simp only [Option.bind_eq_some_iff]at h ⊢;obtain ⟨b,h1,h⟩:=h;have h0:=h
  obtain ⟨hb,h⟩:=ak h;cases h;exact ⟨b,h1,by rw [hm _ (by simp)];exact h0⟩
 case store t x y =>
  rw [hev x (by simp),hev y (by simp)];simp only [Option.bind_eq_some_iff]at h ⊢;obtain ⟨b,h1,b',h2,h⟩:=h;refine ⟨b,h1,b',h2,?_⟩;split at h
  ·rename_i id n i p hb
   try simp only [hb]
   have h0:=h;split at h
   ·obtain ⟨hb,h⟩:=ak h;cases h;rw [hm _ (by simp)];exact h0
   ·cases h
  ·cases h
 case buildSlice t len ps=>rw [jU (fun x hx=>hev x (by simpa using hx))];exact h
 case makeSlice t x y =>
  rw [hev x (by simp),hev y (by simp)];simp only [Option.bind_eq_some_iff]at h ⊢;obtain ⟨b,h1,b',h2,h⟩:=h;refine ⟨b,h1,b',h2,?_⟩;split at h
  ·rename_i k l k' c e e1 e2 e3;have h0:=h
   obtain ⟨hb,h⟩:=ak h;cases h;rw [hm _ (by simp)];exact h0
  ·cases h
 case call c =>
  split at h
  ·rename_i x y t t' hcal hargs htys;have ha:c.args = #[x,y]:=by apply Array.ext';simpa using hargs
   try simp only [hcal,hargs,htys]
   rw [hev x (by simp [Call.operands,ha]),hev y (by simp [Call.operands,ha])];simp only [Option.bind_eq_some_iff]at h ⊢;obtain ⟨b,h1,b',h2,h⟩:=h;refine ⟨b,h1,b',h2,?_⟩;split at h
   ·rename_i e hk
    try simp only [hk]
    simp only [Option.bind_eq_some_iff]at h ⊢;obtain ⟨q,hq,h⟩:=h;refine ⟨q,?_⟩;obtain ⟨hb,h⟩:=ak h;rw [hb];simp only [cond_true];split at h
    ·have h0:=h;rename_i hbx;obtain ⟨hn,h⟩:=ak h;cases h;obtain ⟨g1,g2⟩:=mX hq (fun id hi=>hm id (by simp [hi]));refine ⟨g1,?_⟩
     try simp only [hbx]
     rw [hm _ (by simp),g2];exact h0
    ·have h0:=h;rename_i hbx;obtain ⟨hn,h⟩:=ak h;cases h;obtain ⟨g1,g2⟩:=mX hq (fun id hi=>hm id (by simp [hi]));refine ⟨g1,?_⟩
     try simp only [hbx]
     rw [hm _ (by simp),g2];exact h0
    ·rename_i id n len hbx;have h0:=h
     split at h
     ·obtain ⟨hn,h⟩:=ak h;cases h;obtain ⟨g1,g2⟩:=mX hq (fun id hi=>hm id (by simp [hi]));refine ⟨g1,?_⟩
      try simp only [hbx]
      rw [hm _ (by simp),g2];exact h0
     ·cases h
    ·cases h
   ·cases h
  ·cases h
theorem yP {st st':St} {G:D} {gs:List CG} {o:Oper} {r:R×List CG} (h:evX T st G gs o=some r) (ht:∀ k∈tmpsOf o,st'.t k=st.t k) (hm:∀ id∈r.1.f,st'.m id=st.m id):evX T st' G gs o=some r:=by
 have hev:∀ x∈o.op.operands,ev st' x=ev st x:=fun x hx=>yO ht hx;unfold evX at h ⊢;cases hop:o.op <;> rw [hop]at h <;> (try dsimp only at h) <;> (try (cases h;done)) <;> (try dsimp only) <;> rw [hop]at hev <;> simp only [Op.operands]at hev
 case slice t x lo hi mx =>
  rw [hev x (by simp),uK (fun y e=>hev y (by simp [e])),uK (fun y e=>hev y (by simp [e])),uK (fun y e=>hev y (by simp [e]))];simp only [Option.bind_eq_some_iff]at h ⊢;obtain ⟨b,h1,l,h2,hh,h3,q,h4,r',h5,h⟩:=h;have h0:=h
  obtain ⟨hb,h⟩:=ak h;cases h;obtain ⟨g1,g2⟩:=Ku h5 hm;exact ⟨b,h1,l,h2,hh,h3,q,h4,r',g1,by rw [g2];exact h0⟩
 case buildSlice t len ps =>
  cases gs with
  | nil=>cases h
  | cons g gs =>
   dsimp only at h ⊢;rw [jU (fun x hx=>hev x (by simpa using hx))];have hmn:=(ak h).1
   replace h:=(ak h).2;rw [hmn];simp only [cond_true];simp only [Option.bind_eq_some_iff]at h ⊢;obtain ⟨l,h1,h⟩:=h;refine ⟨l,h1,?_⟩;split at h
   ·have h0:=h;obtain ⟨hb,h⟩:=ak h;cases h;rw [hm _ (by simp)];exact h0
   ·cases h
 case makeMap t rv =>
  cases rv with
  | some _=>cases h
  | none =>
   dsimp only at h ⊢;have h0:=h
   obtain ⟨hb,h⟩:=ak h;cases h;rw [hm _ (by simp)];exact h0
 case lookup t x k ok =>
  cases gs with
  | nil=>cases h
  | cons g gs =>
   dsimp only at h ⊢;rw [hev x (by simp),hev k (by simp)];simp only [Option.bind_eq_some_iff]at h ⊢;obtain ⟨b,h1,b2,h2,h⟩:=h;refine ⟨b,h1,b2,h2,?_⟩;have h0:=h
   split at h
   ·rename_i id kt vt hb hk;have h0':=h
    split at h
    ·obtain ⟨hbb,h⟩:=ak h;cases h;rw [hm _ (by simp)];exact h0'
    ·cases h
   ·cases h
 case mapUpdate t x k v =>
  cases gs with
  | nil=>cases h
  | cons g gs =>
   dsimp only at h ⊢;rw [hev x (by simp),hev k (by simp),hev v (by simp)];simp only [Option.bind_eq_some_iff]at h ⊢;obtain ⟨b,h1,b2,h2,b3,h3,es',h4,h⟩:=h;refine ⟨b,h1,b2,h2,b3,h3,es',h4,?_⟩;split at h
   ·rename_i id kt vt hb hk;have h0':=h
    split at h
    ·obtain ⟨hbb,h⟩:=ak h;cases h;rw [hm _ (by simp)];exact h0'
    ·cases h
   ·cases h
 case insert t x k v =>
  cases gs with
  | nil=>cases h
  | cons g gs =>
   dsimp only at h ⊢;rw [hev x (by simp),hev k (by simp),hev v (by simp)];simp only [Option.bind_eq_some_iff]at h ⊢;obtain ⟨b,h1,b2,h2,b3,h3,es',h4,h⟩:=h;refine ⟨b,h1,b2,h2,b3,h3,es',h4,?_⟩;split at h
   ·rename_i id kt vt hb hk;have h0':=h
    split at h
    ·obtain ⟨hbb,h⟩:=ak h;cases h;rw [hm _ (by simp)];exact h0'
    ·cases h
   ·cases h
 case call c =>
  split at h
  ·rename_i x y t t' hcal hargs htys;have ha:c.args = #[x,y]:=by apply Array.ext';simpa using hargs
   try simp only [hcal,hargs,htys]
   rw [hev x (by simp [Call.operands,ha]),hev y (by simp [Call.operands,ha])];simp only [Option.bind_eq_some_iff]at h ⊢;obtain ⟨b,h1,b',h2,h⟩:=h;refine ⟨b,h1,b',h2,?_⟩;split at h
   ·rename_i e hk
    try simp only [hk]
    simp only [Option.bind_eq_some_iff]at h ⊢;obtain ⟨q,hq,r',hr',h⟩:=h;have h0:=h
    obtain ⟨hbb,h⟩:=ak h;cases h;obtain ⟨g1,g2,g3⟩:=Jy hr' hm;obtain ⟨k1,k2⟩:=GY hq (fun id hi=>hm id (g3 id hi));exact ⟨q,k1,r',g1,by rw [g2,k2];exact h0⟩
   ·cases h
  ·rename_i x y t t' hcal hargs htys;have ha:c.args = #[x,y]:=by apply Array.ext';simpa using hargs
   try simp only [hcal,hargs,htys]
   split at h
   ·rename_i g gs';have h00:=h
    obtain ⟨hm0,h⟩:=ak h;simp only [hm0,cond_true];rw [hev x (by simp [Call.operands,ha]),hev y (by simp [Call.operands,ha])];simp only [Option.bind_eq_some_iff]at h ⊢;obtain ⟨b,h1,b',h2,h⟩:=h;refine ⟨b,h1,b',h2,?_⟩;split at h
    ·rename_i e hk
     try simp only [hk]
     simp only [Option.bind_eq_some_iff]at h ⊢;obtain ⟨q,hq,r',hr',h⟩:=h;have h0:=h
     obtain ⟨hbb,h⟩:=ak h;cases h;obtain ⟨k1,k2⟩:=mX hq (fun id hi=>hm id (List.mem_append_right _ hi));have k3:=IB hr' (fun id hi=>hm id (List.mem_append_left _ hi))
     exact ⟨q,k1,r',k3,by rw [k2];exact h0⟩
    ·cases h
   ·cases h
  ·rename_i x t hcal hargs htys;have ha:c.args = #[x]:=by apply Array.ext';simpa using hargs
   try simp only [hcal,hargs,htys]
   rw [hev x (by simp [Call.operands,ha])];simp only [Option.bind_eq_some_iff]at h ⊢;obtain ⟨b,h1,h⟩:=h;refine ⟨b,h1,?_⟩;split at h
   ·rename_i id n i len cap e hb hk;split at h
    ·rename_i B hB;have h0:=h
     obtain ⟨hbb,h⟩:=ak h;cases h;have e1:=hm id (by simp)
     simp only [hb,hk,nC,e1,hB]at h0 ⊢;exact h0
    ·cases h
   ·cases h
  ·cases h
theorem LX {AC:ACT} {st st':St} {G:D} {gs:List CG} {o:Oper} {r:R×List CG} (h:evK T AC st G gs o=some r) (ht:∀ k∈tmpsOf o,st'.t k=st.t k) (hm:∀ id∈r.1.f,st'.m id=st.m id):evK T AC st' G gs o=some r:=by
 have hev:∀ x∈o.op.operands,ev st' x=ev st x:=fun x hx=>yO ht hx;unfold evK at h ⊢;split at h
 ·rename_i c g gs' hop
  try simp only [hop]
  rw [hop]at hev;simp only [Op.operands]at hev;split at h
  ·rename_i fo hcal
   try simp only [hcal]
   rw [hev fo (by simp [Call.operands,hcal]),jU (fun x hx=>hev x (by simp at hx;simp [Call.operands,hcal,hx]))];simp only [Option.bind_eq_some_iff]at h ⊢;obtain ⟨fa,h1,l,h2,h⟩:=h;refine ⟨fa,h1,l,h2,?_⟩;split at h
   ·rename_i f caps hfa hlent
    try simp only [hfa,hlent]
    simp only [Option.bind_eq_some_iff]at h ⊢;obtain ⟨fz,h3,h⟩:=h;have h0:=h
    obtain ⟨hb,h⟩:=ak h;cases h;exact ⟨fz,AA h3 hm,h0⟩
   ·rename_i f caps hfa hlent
    try simp only [hfa,hlent]
    cases hlk:Ez g with
    | true =>
     simp only [hlk,cond_true,Option.bind_eq_some_iff]at h ⊢;obtain ⟨vw,h3,B,h4,h⟩:=h;have h0:=h
     obtain ⟨hb,h⟩:=ak h;cases h;have hf1:∀ id∈vw.2.1.map (·.1),st'.m id=st.m id:=fun id hi=>hm id (List.mem_append_left _ hi)
     have hf2:∀ id∈g.ids,st'.m id=st.m id:=fun id hi=>hm id (List.mem_append_right _ hi);refine ⟨vw,qK h3 hf1,B,?_,h0⟩;rw [uY (m:=je st.m vw.2.1) (fun id hi=>lH (hf2 id hi))];exact h4
    | false =>
     simp only [hlk,cond_false]at h ⊢;simp only [Option.bind_eq_some_iff]at h ⊢;obtain ⟨vw,h3,B,h4,h⟩:=h;have h0:=h
     obtain ⟨hb,h⟩:=ak h;cases h;have hf1:∀ id∈vw.2.1.map (·.1),st'.m id=st.m id:=fun id hi=>hm id (List.mem_append_left _ hi)
     have hf2:∀ id∈g.ids,st'.m id=st.m id:=fun id hi=>hm id (List.mem_append_right _ (List.mem_append_left _ hi));have hf3:∀ id∈sites (o.dst.getD 0) 1 (g.out.length - g.ids.length),st'.m id=st.m id:=fun id hi=>hm id (List.mem_append_right _ (List.mem_append_right _ hi))
     refine ⟨vw,qK h3 hf1,B,?_,?_⟩
     ·rw [uY (m:=je st.m vw.2.1) (fun id hi=>lH (hf2 id hi))];exact h4
     ·have e:(sites (o.dst.getD 0) 1 (g.out.length - g.ids.length)).all (fun id=>isNone (je st'.m vw.2.1 id))=(sites (o.dst.getD 0) 1 (g.out.length - g.ids.length)).all (fun id=>isNone (je st.m vw.2.1 id)):=by
       rw [Bool.eq_iff_iff,List.all_eq_true,List.all_eq_true];constructor
       ·intro h id hi;rw [← lH (hf3 id hi)];exact h id hi
       ·intro h id hi;rw [lH (hf3 id hi)];exact h id hi
      rw [e];exact h0
   ·cases h
  ·cases h
 ·cases h
theorem LW {AC:ACT} {st st':St} {G:D} {gs:List CG} {o:Oper} {r:R×List CG} (h:evO T AC st G gs o=some r) (ht:∀ k∈tmpsOf o,st'.t k=st.t k) (hm:∀ id∈r.1.f,st'.m id=st.m id):evO T AC st' G gs o=some r:=by
 have w:∀ {r:R×List CG},((evW T st G o).bind fun r=>some (r,gs))=some r→(∀ id∈r.1.f,st'.m id=st.m id)→((evW T st' G o).bind fun r=>some (r,gs))=some r:=by
  intro r h hm;simp only [Option.bind_eq_some_iff,Option.some.injEq]at h ⊢;obtain ⟨r',h1,rfl⟩:=h;exact ⟨r',LU h1 ht hm,rfl⟩
 unfold evO at h ⊢;split at h
 ·rename_i hc;simp only [Option.bind_eq_some_iff,Option.some.injEq]at h ⊢;obtain ⟨r',h1,rfl⟩:=h;exact ⟨r',LV h1 ht hm,rfl⟩
 ·exact w h hm
 ·exact yP h ht hm
 ·cases gs with
  | nil=>exact w h hm
  | cons g gs =>
   dsimp only at h ⊢;cases hmn:Ar g with
   | true=>rw [hmn]at h;exact yP h ht hm
   | false=>rw [hmn]at h;exact w h hm
 ·cases gs with
  | nil=>exact w h hm
  | cons g gs =>
   dsimp only at h ⊢;cases hmn:IU g with
   | true=>rw [hmn]at h;exact yP h ht hm
   | false=>rw [hmn]at h;exact w h hm
 ·exact LX h ht hm
def reads (ops:List Oper) (o:Oper):List Nat:=(match o.guard with
 | some (j,_)=>match (ops[j]?).bind (·.dst)with
  | some d=>[d]
  | none=>[]
 | none=>[])++tmpsOf o
theorem CU {ops:List Oper} {st st':St} {o:Oper} (ht:∀ k∈reads ops o,st'.t k=st.t k):jM ops st' o=jM ops st o:=by
 unfold jM;unfold reads at ht;cases hg:o.guard with
 | none=>rfl
 | some p =>
  obtain ⟨j,w⟩:=p;simp only
  cases hj:ops[j]? with
  | none=>rfl
  | some oj =>
   simp only [Option.bind_some];cases hd:oj.dst with
   | none=>rfl
   | some d =>
    simp only [Option.bind_some];rw [ht d (by simp [hg,hj,hd])]
end
structure Rec where
 o:Oper
 G:D
 gs:List CG
 r:R
def evT (T:Nat→TI) (AC:ACT) (nt:Nat) (ops:List Oper):List Oper→RS→Option (List Rec×RS)
 | [],s=>some ([],s)
 | o::r,s=>(jM ops s.st o).bind fun G=>(evO T AC s.st G s.gs o).bind fun x=>bif yS nt o.dst then
  (evT T AC nt ops r ⟨s.st.after o G x.1,x.2,fG s.c x.1.c⟩).bind fun p=>some (⟨o,G,s.gs,x.1⟩::p.1,p.2)else none
def Es (a:Nat) (l:List Nat):Bool:=l.any (Nat.beq a)
def pz (a b:List Id):Bool:=a.any (fV b)
def wr (r:R):List Id:=r.d.map (·.1)
def vN (d:Option Nat) (l:List Nat):Bool:=match d with
 | some d => !Es d l
 | none=>true
def Dk (d e:Option Nat):Bool:=match d,e with
 | some d,some e => !Nat.beq d e
 | _,_=>true
def uQ (ops:List Oper) (x y:Rec):Bool :=
 vN x.o.dst (reads ops y.o)&&vN y.o.dst (reads ops x.o)&&Dk x.o.dst y.o.dst && !pz (wr x.r) (y.r.f++wr y.r) && !pz (wr y.r) x.r.f
def reach (ops:List Oper) (i:Nat):Nat→Oper→Bool
 | 0,_=>false
 | f+1,o=>(o.after.toList.any fun e=>Region.binds .any e&&Nat.beq e.on i)||o.after.toList.any fun e=>Region.binds .any e&&Nat.blt i e.on&&match ops[e.on]? with
  | some o'=>reach ops i f o'
  | none=>false
def forward (j:Nat) (o:Oper):Bool:=o.after.toList.all fun e => !Region.binds .any e||Nat.blt e.on j
def lu (ops:List Oper) (y:Rec):List Rec→Nat→Bool
 | [],_=>true
 | x::r,i=>(uQ ops x y||reach ops i 12 y.o)&&lu ops y r (i+1)
def zX (ops:List Oper):List Rec→List Rec→Bool
 | _,[]=>true
 | done,y::r=>forward done.length y.o&&lu ops y done 0&&zX ops (done++[y]) r
def evA (T:Nat→TI) (AC:ACT) (nt:Nat) (ops:List Oper) (s:RS):Option RS :=
 (evT T AC nt ops ops s).bind fun p=>bif zX ops [] p.1 then some p.2 else none
theorem rV {ops:List Oper} {y:Rec}:∀ {l:List Rec} {i0 i:Nat} {x:Rec},lu ops y l i0=true→l[i]? = some x→uQ ops x y=true∨reach ops (i0+i) 12 y.o=true
 | [],_,_,_,_,h=>by simp at h
 | z::r,i0,i,x,h,hi=>by
  simp only [lu,Bool.and_eq_true,Bool.or_eq_true]at h;cases i with
  | zero=>simp at hi;subst hi;simpa using h.1
  | succ i =>
   have:=rV (i:=i) h.2 (by simpa using hi)
   rwa [show i0+(i+1)=i0+1+i by omega]
theorem Ei {ops:List Oper}:∀ {r done:List Rec},zX ops done r=true → ∀ {i j:Nat} {x y:Rec},i<j→done.length≤j→(done++r)[i]? = some x→(done++r)[j]? = some y→uQ ops x y=true∨reach ops i 12 y.o=true
 | [],done,_,i,j,x,y,_,hj,_,hy=>by
  simp at hy;have:=(List.getElem?_eq_some_iff.1 hy).1
  omega
 | z::r,done,h,i,j,x,y,hij,hj,hx,hy=>by
  simp only [zX,Bool.and_eq_true]at h;by_cases hjd:j=done.length
  ·subst hjd;rw [List.getElem?_append_right (Nat.le_refl _)]at hy;simp at hy;subst hy;rw [List.getElem?_append_left hij]at hx;have:=rV h.1.2 hx
   rwa [Nat.zero_add]at this
  ·have e:done++z::r=(done++[z])++r:=by simp
   rw [e]at hx hy;exact Ei h.2 hij (by simp;omega) hx hy
theorem zW {ops:List Oper}:∀ {r done:List Rec},zX ops done r=true → ∀ {j:Nat} {y:Rec},done.length≤j→(done++r)[j]? = some y→forward j y.o=true
 | [],done,_,j,y,hj,hy=>by
  simp at hy;have:=(List.getElem?_eq_some_iff.1 hy).1
  omega
 | z::r,done,h,j,y,hj,hy=>by
  simp only [zX,Bool.and_eq_true]at h;by_cases hjd:j=done.length
  ·subst hjd;rw [List.getElem?_append_right (Nat.le_refl _)]at hy;simp at hy;subst hy;exact h.1.1
  ·have e:done++z::r=(done++[z])++r:=by simp
   rw [e]at hy;exact zW h.2 (by simp;omega) hy
def gU (X:Nat→Bool):Nat→List Rec→St→St
 | _,[],st=>st
 | k,x::r,st=>gU X (k+1) r (bif X k then st.after x.o x.G x.r else st)
theorem ru {X:Nat→Bool}:∀ {l:List Rec} {k:Nat} {st:St},(∀ i,k≤i→X i=false)→gU X k l st=st
 | [],_,_,_=>rfl
 | x::r,k,st,h=>by
  simp only [gU,h k (Nat.le_refl _),cond_false];exact ru (fun i hi=>h i (by omega))
theorem mg {X Y:Nat→Bool}:∀ {l:List Rec} {k:Nat} {st:St},(∀ i,k≤i→i<k+l.length→X i=Y i)→gU X k l st=gU Y k l st
 | [],_,_,_=>rfl
 | x::r,k,st,h=>by
  simp only [gU];rw [h k (Nat.le_refl _) (by simp)];exact mg (fun i hi hi'=>h i (by omega) (by simp;omega))
theorem jS {m:Id→Option Ob} {d:List (Id×Ob)} {id:Id} (h:id∉d.map (·.1)):je m d id=m id:=by
 induction d generalizing m with
 | nil=>rfl
 | cons x d ih =>
  simp only [List.map_cons,List.mem_cons,not_or]at h;simp only [je];rw [ih h.2,dL _ _ h.1]
theorem EZ {m m':Id→Option Ob} {d:List (Id×Ob)} {id:Id} (h:id∈d.map (·.1)):je m d id=je m' d id:=by
 induction d generalizing m m' with
 | nil=>simp at h
 | cons x d ih =>
  simp only [je];by_cases hd:id∈d.map (·.1)
  ·exact ih hd
  ·simp only [List.map_cons,List.mem_cons]at h;rcases h with h | h
   ·rw [jS hd,jS hd,h,bC,bC]
   ·exact absurd h hd
theorem y5 (st:St) (o:Oper) (G:D) (r:R):(st.after o G r).m=je st.m r.d:=rfl
theorem Jf {X Y:Nat→Bool} {t:Nat}:∀ {l:List Rec} {k:Nat} {st st':St},st.t t=st'.t t→(∀ (i:Nat) (x:Rec),l[i]? = some x→X (k+i)≠Y (k+i)→x.o.dst≠some t)→(gU X k l st).t t=(gU Y k l st').t t
 | [],_,_,_,h,_=>h
 | x::r,k,st,st',h,hd=>by
  simp only [gU];refine Jf ?_ (fun i y hy hne=>hd (i+1) y (by simpa using hy) (by rwa [show k+(i+1)=k+1+i by omega]));have h0:=hd 0 x rfl
  simp only [Nat.add_zero]at h0;have hsame:∀ st:St,x.o.dst≠some t→(st.after x.o x.G x.r).t t=st.t t:=by
   intro st hne;rw [vT];cases hx:x.o.dst with
   | none=>rfl
   | some d =>
    have:t≠d:=fun e=>hne (by rw [hx,e]);simp [this]
  have hboth:(st.after x.o x.G x.r).t t=(st'.after x.o x.G x.r).t t:=by
   rw [vT,vT];cases x.o.dst with
   | none=>exact h
   | some d=>by_cases e:t=d <;> simp [e,h] <;> (subst e;exact fun _=>h)
  cases hX:X k <;> cases hY:Y k
  ·exact h
  ·rw [hX,hY]at h0;simp only [cond_false,cond_true];rw [hsame st' (h0 (by simp))];exact h
  ·rw [hX,hY]at h0;simp only [cond_false,cond_true];rw [hsame st (h0 (by simp))];exact h
  ·exact hboth
theorem Jg {X Y:Nat→Bool} {id:Id}:∀ {l:List Rec} {k:Nat} {st st':St},st.m id=st'.m id→(∀ (i:Nat) (x:Rec),l[i]? = some x→X (k+i)≠Y (k+i)→id∉wr x.r)→(gU X k l st).m id=(gU Y k l st').m id
 | [],_,_,_,h,_=>h
 | x::r,k,st,st',h,hd=>by
  simp only [gU];refine Jg ?_ (fun i y hy hne=>hd (i+1) y (by simpa using hy) (by rwa [show k+(i+1)=k+1+i by omega]));have h0:=hd 0 x rfl
  simp only [Nat.add_zero]at h0;cases hX:X k <;> cases hY:Y k
  ·exact h
  ·rw [hX,hY]at h0;simp only [cond_false,cond_true,y5];rw [jS (h0 (by simp))];exact h
  ·rw [hX,hY]at h0;simp only [cond_false,cond_true,y5];rw [jS (h0 (by simp))];exact h
  ·simp only [cond_true,y5];exact (lH h.symm).symm
theorem Gy (st:St) (x y:Rec) (hd:Dk x.o.dst y.o.dst=true) (hw:∀ id∈wr x.r,id∉wr y.r):(st.after x.o x.G x.r).after y.o y.G y.r=(st.after y.o y.G y.r).after x.o x.G x.r:=by
 have ht:((st.after x.o x.G x.r).after y.o y.G y.r).t=((st.after y.o y.G y.r).after x.o x.G x.r).t:=by
  funext k;simp only [vT];cases hx:x.o.dst with
  | none=>rfl
  | some d =>
   cases hy:y.o.dst with
   | none=>rfl
   | some e =>
    rw [hx,hy]at hd;have hne:d≠e:=fun h=>by subst h;simp [Dk]at hd
    simp only
    by_cases h1:k=d
    ·subst h1;simp [hne]
    ·simp [h1]
 have hm:((st.after x.o x.G x.r).after y.o y.G y.r).m=((st.after y.o y.G y.r).after x.o x.G x.r).m:=by
  funext id;simp only [y5];by_cases h1:id∈wr y.r
  ·by_cases h2:id∈wr x.r
   ·exact absurd h1 (hw id h2)
   ·rw [jS (m:=je st.m y.r.d) h2];exact EZ h1
  ·rw [jS h1];by_cases h2:id∈wr x.r
   ·exact EZ h2
   ·rw [jS h2,jS h2,jS h1]
 cases h1:(st.after x.o x.G x.r).after y.o y.G y.r;cases h2:(st.after y.o y.G y.r).after x.o x.G x.r;rw [h1,h2]at ht hm;simp only at ht hm;rw [ht,hm]
theorem pI {X:Nat→Bool} {x:Rec}:∀ {l:List Rec} {k:Nat} {st:St},(∀ (i:Nat) (y:Rec),l[i]? = some y→X (k+i)=true→Dk x.o.dst y.o.dst=true ∧ ∀ id∈wr x.r,id∉wr y.r) →
 gU X k l (st.after x.o x.G x.r)=(gU X k l st).after x.o x.G x.r
 | [],_,_,_=>rfl
 | y::r,k,st,h=>by
  simp only [gU];have h':∀ (i:Nat) (z:Rec),r[i]? = some z→X (k+1+i)=true→Dk x.o.dst z.o.dst=true ∧ ∀ id∈wr x.r,id∉wr z.r:=fun i z hz hX=>h (i+1) z (by simpa using hz) (by rwa [show k+(i+1)=k+1+i by omega])
  cases hX:X k with
  | false=>exact pI h'
  | true =>
   obtain ⟨h1,h2⟩:=h 0 y rfl (by simpa using hX);simp only [cond_true];rw [Gy st x y h1 h2];exact pI h'
theorem AU {X Y:Nat→Bool} {i:Nat} {x:Rec}:∀ {l:List Rec} {k:Nat} {st:St},l[i]? = some x→X (k+i)=false→Y (k+i)=true→(∀ j,j≠k+i→X j=Y j)→(∀ (j:Nat) (y:Rec),i<j→l[j]? = some y→X (k+j)=true→Dk x.o.dst y.o.dst=true ∧ ∀ id∈wr x.r,id∉wr y.r) →
 gU Y k l st=(gU X k l st).after x.o x.G x.r
 | [],_,_,h,_,_,_,_=>by simp at h
 | y::r,k,st,h,hX,hY,hXY,hc=>by
  cases i with
  | zero =>
   simp at h;subst h;simp only [Nat.add_zero]at hX hY hXY;simp only [gU,hX,hY,cond_true,cond_false];rw [mg (X:=Y) (Y:=X) (fun j hj _=>(hXY j (by omega)).symm)];exact pI (fun j z hz hXz=>hc (j+1) z (by omega) (by simpa using hz) (by rwa [show k+(j+1)=k+1+j by omega]))
  | succ i =>
   have e:k+(i+1)=k+1+i:=by omega
   simp only [gU];rw [hXY k (by omega)];exact AU (by simpa using h) (by rwa [← e]) (by rwa [← e]) (fun j hj=>hXY j (by omega)) (fun j z hj hz hXz=>hc (j+1) z (by omega) (by simpa using hz) (by rwa [show k+(j+1)=k+1+j by omega]))
section
variable {P:Program} {T:Nat→TI} {N:Nat}
theorem Ba {AC:ACT} {nt:Nat} {ops:List Oper}:∀ {l:List Oper} {s s':RS} {recs:List Rec} (k:Nat),evT T AC nt ops l s=some (recs,s')→aj s'.c →
 aj s.c∧recs.length=l.length∧s'.st=gU (fun _=>true) k recs s.st ∧
 ∀ (j:Nat) (x:Rec),recs[j]? = some x→l[j]? = some x.o∧jM ops (gU (fun i=>Nat.blt i (k+j)) k recs s.st) x.o=some x.G∧yS nt x.o.dst=true∧aj x.r.c ∧
  ∃ gs',evO T AC (gU (fun i=>Nat.blt i (k+j)) k recs s.st) x.G x.gs x.o=some (x.r,gs')
 | [],s,s',recs,k,h,hc=>by
  simp only [evT,Option.some.injEq,Prod.mk.injEq]at h;obtain ⟨rfl,rfl⟩:=h;exact ⟨hc,rfl,rfl,fun j x hj=>by simp at hj⟩
 | o::r,s,s',recs,k,h,hc=>by
  simp only [evT,Option.bind_eq_some_iff]at h;obtain ⟨G,h1,x,h2,h3⟩:=h;obtain ⟨hnt,h3⟩:=ak h3;simp only [Option.bind_eq_some_iff,Option.some.injEq,Prod.mk.injEq]at h3;obtain ⟨⟨recs',s1⟩,h4,rfl,rfl⟩:=h3;obtain ⟨g1,g2,g3,g4⟩:=Ba (k+1) h4 hc;simp only at g1 g3;rw [aB]at g1;refine ⟨g1.1,by simp [g2],by simp only [gU,cond_true];exact g3,fun j y hj=>?_⟩;cases j with
  | zero =>
   simp at hj;subst hj;have e:gU (fun i=>Nat.blt i (k+0)) k (⟨o,G,s.gs,x.1⟩::recs') s.st=s.st:=ru (fun i hi=>by
    cases hb:Nat.blt i (k+0)with
    | false=>rfl
    | true=>have:=iw hb;omega)
   rw [e];exact ⟨rfl,h1,hnt,g1.2,x.2,h2⟩
  | succ j =>
   simp only [List.getElem?_cons_succ]at hj;obtain ⟨q1,q2,q3,q4,q5⟩:=g4 j y hj;have e:gU (fun i=>Nat.blt i (k+(j+1))) k (⟨o,G,s.gs,x.1⟩::recs') s.st=gU (fun i=>Nat.blt i (k+1+j)) (k+1) recs' (s.st.after o G x.1):=by
    simp only [gU];have:Nat.blt k (k+(j+1))=true:=by rw [Nat.blt_eq];omega
    rw [this,cond_true,show k+(j+1)=k+1+j by omega]
   rw [e];exact ⟨by simpa using q1,q2,q3,q4,q5⟩
theorem F5 {a:Nat} {l:List Nat}:Es a l=true↔a∈l:=by
 simp only [Es,List.any_eq_true];constructor
 ·rintro ⟨b,h1,h2⟩;rw [Nat.eq_of_beq_eq_true h2];exact h1
 ·intro h;exact ⟨a,h,Nat.beq_refl a⟩
theorem Dj {d:Option Nat} {l:List Nat} (h:vN d l=true):∀ t∈l,d≠some t:=by
 rintro t ht rfl;have:Es t l=true:=F5.2 ht
 simp [vN,this]at h
theorem nU {a b:List Id} (h:(!pz a b)=true):∀ id∈a,id∉b:=by
 intro id ha hb;have:pz a b=true:=by
  simp only [pz,List.any_eq_true];exact ⟨id,ha,eF.2 hb⟩
 rw [this]at h;cases h
theorem kH {ops:Array Oper} {listed:Array Bool} (hcl:∀ (j:Nat) (o:Oper),ops[j]? = some o→listed.getD j false=true → ∀ e∈o.after,Region.binds .any e=true→listed.getD e.on false=true) {i:Nat} :
 ∀ (f:Nat) (o:Oper),(∀ e∈o.after,Region.binds .any e=true→listed.getD e.on false=true)→reach ops.toList i f o=true→listed.getD i false=true
 | 0,_,_,h=>by cases h
 | f+1,o,ho,h=>by
  simp only [reach,Bool.or_eq_true,List.any_eq_true,Bool.and_eq_true]at h;rcases h with ⟨e,h1,h2,h3⟩ | ⟨e,h1,⟨h2,_⟩,h3⟩
  ·have:=Nat.eq_of_beq_eq_true h3;subst this;exact ho e (by simpa using h1) h2
  ·split at h3
   ·rename_i o' ho';exact kH hcl f o' (hcl e.on o' (by simpa using ho') (ho e (by simpa using h1) h2)) h3
   ·cases h3
theorem AB {j:Nat} {o:Oper} (h:forward j o=true):∀ e∈o.after,Region.binds .any e=true→e.on<j:=by
 intro e he hb;simp only [forward,List.all_eq_true]at h;have:=h e (by simpa using he)
 rw [hb]at this;simpa [Nat.blt_eq]using this
theorem count_set:∀ (l:List Bool) (i:Nat),l[i]? = some false→(l.set i true).count false+1=l.count false
 | [],_,h=>by simp at h
 | b::l,0,h=>by simp at h;subst h;simp
 | b::l,i+1,h=>by
  have:=count_set l i (by simpa using h);cases b <;> simp <;> omega
theorem Jk (hT:TOK P T N) (hE:xH P T N) {e:Entry} {ops:Array Oper} {Q:Exit→Act→World→Prop} {s s':RS} (h:evA T (AC P T N) e.nt ops.toList s=some s') (hc:aj s'.c)
 (hQ:∀ I' ρ' a' w',dU T N e I' ρ' s'.st a' w'→Q .normal a' w') {I:Imm} {ρ:Pl} {a:Act} {w:World} (hs:dU T N e I ρ s.st a w) (rd:Option Nat) (n:Nat):wpAnyIn (jH rd) n P .any ops Q ops.size (Array.replicate ops.size false) a w:=by
 simp only [evA,Option.bind_eq_some_iff]at h;obtain ⟨⟨recs,s1⟩,h1,h2⟩:=h;obtain ⟨hok,h2⟩:=ak h2;cases h2;obtain ⟨f1,f2,f3,f4⟩:=Ba 0 h1 hc;have hpair:∀ {i j:Nat} {x y:Rec},i<j→recs[i]? = some x→recs[j]? = some y→uQ ops.toList x y=true∨reach ops.toList i 12 y.o=true:=fun hij hx hy=>Ei hok hij (by simp) (by simpa using hx) (by simpa using hy)
 have hfwd:∀ {j:Nat} {y:Rec},recs[j]? = some y→forward j y.o=true:=fun hy=>zW hok (by simp) (by simpa using hy);have hlen:recs.length=ops.size:=by simpa using f2
 have hrec:∀ j,j<ops.size → ∃ x,recs[j]? = some x∧ops[j]? = some x.o:=by
  intro j hj;refine ⟨recs[j]'(by omega),List.getElem?_eq_getElem _,?_⟩;have:=(f4 j _ (List.getElem?_eq_getElem (by omega))).1
  simpa using this
 have main:∀ (fuel:Nat) (listed:Array Bool) (I:Imm) (ρ:Pl) (a:Act) (w:World),listed.size=ops.size→(∀ (j:Nat) (o:Oper),ops[j]? = some o→listed.getD j false=true → ∀ e∈o.after,Region.binds .any e=true→listed.getD e.on false=true) →
  listed.toList.count false≤fuel→dU T N e I ρ (gU (fun i=>listed.getD i false) 0 recs s.st) a w→wpAnyIn (jH rd) n P .any ops Q fuel listed a w:=by
  intro fuel
  induction fuel with
  | zero =>
   intro listed I ρ a w hsz hcl hcount hs;have hall:∀ i,i<ops.size→listed.getD i false=true:=by
    intro i hi;have h0:listed.toList.count false=0:=by omega
    rw [List.count_eq_zero]at h0;have hi':i<listed.size:=by omega
    cases hb:listed[i]with
    | true=>simp [hi',hb]
    | false=>exact absurd (by rw [← hb];simp) h0
   refine ⟨?_,?_⟩
   ·rw [List.eq_nil_iff_forall_not_mem];intro i hi;obtain ⟨h3,o,h4,_⟩:=mem_ready.1 hi;have hio:=(Array.getElem?_eq_some_iff.1 h4).1
    have:=hall i hio;have hi':i<listed.size:=by omega
    simp [hi']at h3 this;rw [h3]at this;cases this
   ·have e1:gU (fun i=>listed.getD i false) 0 recs s.st=s1.st:=by
     rw [f3];exact mg (fun i _ hi=>hall i (by omega))
    rw [e1]at hs;exact hQ _ _ _ _ hs
  | succ fuel ih =>
   intro listed I ρ a w hsz hcl hcount hs;refine ⟨fun hready=>?_,fun i hi=>?_⟩
   ·
     have hall:∀ i,i<ops.size→listed.getD i false=true:=by
      intro i
      induction i using Nat.strongRecOn with
      | _ i ihi =>
       intro hi;cases hb:listed.getD i false with
       | true=>rfl
       | false =>
        exfalso;obtain ⟨x,hx1,hx2⟩:=hrec i hi;have hf:=AB (hfwd hx1)
        have:i∈Region.ready .any ops listed:=by
         rw [mem_ready];have hi':i<listed.size:=by omega
         refine ⟨by simpa [hi']using hb,x.o,hx2,fun e he hbb=>?_⟩;have h5:=hf e he hbb
         exact ihi e.on h5 (by omega)
        rw [hready]at this;cases this
     have e1:gU (fun i=>listed.getD i false) 0 recs s.st=s1.st:=by
      rw [f3];exact mg (fun i _ hi=>hall i (by omega))
     rw [e1]at hs;exact hQ _ _ _ _ hs
   ·obtain ⟨h3,o,h4,h5⟩:=mem_ready.1 hi;have hio:=(Array.getElem?_eq_some_iff.1 h4).1
    obtain ⟨x,hx1,hx2⟩:=hrec i hio;rw [h4]at hx2;cases hx2;obtain ⟨_,q2,q3,q4,gs',q5⟩:=f4 i x hx1;simp only [Nat.zero_add]at q2 q5;have hi':i<listed.size:=by omega
    have hXi:listed.getD i false=false:=by simp [hi']at h3 ⊢;exact h3
    have hdiff:∀ (m:Nat) (y:Rec),recs[m]? = some y→listed.getD m false≠Nat.blt m i→vN y.o.dst (reads ops.toList x.o)=true∧(∀ id∈wr y.r,id∉x.r.f):=by
     intro m y hy hne;rcases Nat.lt_trichotomy m i with hmi | hmi | hmi
     ·have hb:Nat.blt m i=true:=by rw [Nat.blt_eq];exact hmi
      rw [hb]at hne;have hX:listed.getD m false=false:=by simpa using hne
      rcases hpair hmi hy hx1 with hn | he;rotate_left
      ·have:=kH hcl _ _ h5 he;rw [hX]at this;cases this
      ·simp only [uQ,Bool.and_eq_true]at hn;exact ⟨hn.1.1.1.1,fun id hid hf=>nU hn.1.2 id hid (List.mem_append_left _ hf)⟩
     ·subst hmi;have hb:Nat.blt m m=false:=by
       cases hb:Nat.blt m m with
       | false=>rfl
       | true=>have:=iw hb;omega
      rw [hXi,hb]at hne;exact absurd rfl hne
     ·have hb:Nat.blt m i=false:=by
       cases hb:Nat.blt m i with
       | false=>rfl
       | true=>have:=iw hb;omega
      rw [hb]at hne;have hX:listed.getD m false=true:=by simpa using hne
      obtain ⟨y',hy1,hy2⟩:=hrec m (by have:=(List.getElem?_eq_some_iff.1 hy).1;omega);rw [hy]at hy1;cases hy1;rcases hpair hmi hx1 hy with hn | he;rotate_left
      ·have:=kH hcl _ _ (hcl m y.o hy2 hX) he;rw [hXi]at this;cases this
      ·simp only [uQ,Bool.and_eq_true]at hn;exact ⟨hn.1.1.1.2,nU hn.2⟩
    have ht:∀ k∈reads ops.toList x.o,(gU (fun i=>listed.getD i false) 0 recs s.st).t k=(gU (fun m=>Nat.blt m i) 0 recs s.st).t k:=fun k hk =>
     Jf rfl (fun m y hy hne=>Dj (hdiff m y hy (by simpa using hne)).1 k hk)
    have hm:∀ id∈x.r.f,(gU (fun i=>listed.getD i false) 0 recs s.st).m id=(gU (fun m=>Nat.blt m i) 0 recs s.st).m id:=fun id hid =>
     Jg rfl (fun m y hy hne hw=>(hdiff m y hy (by simpa using hne)).2 id hw hid)
    have hg:=(CU ht).trans q2;have ho:=LW q5 (fun k hk=>ht k (by unfold reads;exact List.mem_append_right _ hk)) hm
    have hstep:=qL (Q:=Q) hT hE hs hg ho q4 q3 (K:=wpAnyIn (jH rd) n P .any ops Q fuel (listed.setIfInBounds i true)) (rd:=rd) (n:=n) (fun I' ρ' a' w' hs'=>by
     refine ih (listed.setIfInBounds i true) I' ρ' a' w' (by simp [hsz]) ?_ ?_ ?_
     ·intro j oj hj hXj e' he' hb';by_cases hji:j=i
      ·subst hji;rw [h4]at hj;cases hj;exact getD_set_true (h5 e' he' hb')
      ·rw [getD_set_ne false (Ne.symm hji)]at hXj;exact getD_set_true (hcl j oj hj hXj e' he' hb')
     ·rw [Array.toList_setIfInBounds];have:=count_set listed.toList i (by simp [hi']at h3 ⊢;exact h3)
      omega
     ·have e1:gU (fun j=>(listed.setIfInBounds i true).getD j false) 0 recs s.st=(gU (fun i=>listed.getD i false) 0 recs s.st).after x.o x.G x.r:=by
       refine AU hx1 (by simpa using hXi) (by simp [hi']) (fun j hj=>by rw [getD_set_ne false (by omega)]) (fun j y hij hy hXj=>?_);obtain ⟨y',hy1,hy2⟩:=hrec j (by have:=(List.getElem?_eq_some_iff.1 hy).1;omega);rw [hy]at hy1;cases hy1;rcases hpair hij hx1 hy with hn | he
       rotate_left
       ·have:=kH hcl _ _ (hcl j y.o hy2 (by simpa using hXj)) he;rw [hXi]at this;cases this
       ·simp only [uQ,Bool.and_eq_true]at hn;exact ⟨hn.1.1.2,fun id hid hf=>nU hn.1.2 id hid (List.mem_append_right _ hf)⟩
      rw [e1];exact hs')
    unfold wpOpIn;simp only [h4];by_cases hw:Region.wanted x.o (yielded ops a.tmps)=true
    ·rw [if_pos hw]at hstep;rw [if_pos hw];exact hstep
    ·rw [if_neg hw]at hstep;rw [if_neg hw];exact ⟨fun _ _=>trivial,hstep⟩
 refine main ops.size (Array.replicate ops.size false) I ρ a w (by simp) ?_ ?_ ?_
 ·intro j o hj hX;exfalso;have hjo:=(Array.getElem?_eq_some_iff.1 hj).1
  simp [hjo]at hX
 ·simp
 ·have e1:gU (fun i=>(Array.replicate ops.size false).getD i false) 0 recs s.st=s.st:=ru (fun i _=>by
   by_cases hi:i<ops.size
   ·simp [hi]
   ·simp [hi])
  rw [e1];exact hs
end
mutual
def CV (S:AV→AV→Prop):AV→AV→Prop
 | .agg t n g,y => ∃ g',y = .agg t n g' ∧ ∀ i,i<n→CV S (g i) (g' i)
 | .row e f n g,y => ∃ f' g',y = .row e f' n g'∧(f'=true→f=true) ∧ ∀ i,i<n→CV S (g i) (g' i)
 | .rp t x,y => ∃ x',y = .rp t x'∧CV S x x'
 | .clo f cs,y => ∃ cs',y = .clo f cs'∧CVL S cs cs'
 | .tup vs,y => ∃ vs',y = .tup vs'∧CVL S vs vs'
 | .v x,y=>S (.v x) y
 | .own id n i len cap,y=>S (.own id n i len cap) y
 | .arr id n i p lo len hi,y=>S (.arr id n i p lo len hi) y
 | .ptr id n i p,y=>S (.ptr id n i p) y
 | .mp id,y=>S (.mp id) y
def CVL (S:AV→AV→Prop):List AV→List AV→Prop
 | [],l=>l=[]
 | x::r,l => ∃ y r',l=y::r'∧CV S x y∧CVL S r r'
end
mutual
theorem CV.refl {S:AV→AV→Prop} (h:∀ x,S x x):∀ x,CV S x x
 | .agg t n g=>⟨g,rfl,fun i _=>CV.refl h (g i)⟩
 | .row e f n g=>⟨f,g,rfl,fun h=>h,fun i _=>CV.refl h (g i)⟩
 | .rp t x=>⟨x,rfl,CV.refl h x⟩
 | .clo f cs=>⟨cs,rfl,CVL.refl h cs⟩
 | .tup vs=>⟨vs,rfl,CVL.refl h vs⟩
 | .v x=>h _
 | .own id n i len cap=>h _
 | .arr id n i p lo len hi=>h _
 | .ptr id n i p=>h _
 | .mp id=>h _
theorem CVL.refl {S:AV→AV→Prop} (h:∀ x,S x x):∀ l,CVL S l l
 | []=>rfl
 | x::r=>⟨x,r,rfl,CV.refl h x,CVL.refl h r⟩
end
def AEq:AV→AV→Prop:=CV (fun x y=>x=y)
theorem AEq.refl (x:AV):AEq x x:=CV.refl (fun _=>rfl) x
theorem AEq.agg {t n:Nat} {g g':Nat→AV} (h:∀ i,i<n→AEq (g i) (g' i)):AEq (.agg t n g) (.agg t n g'):=⟨g',rfl,h⟩
theorem AEq.row {e n:Nat} {f f':Bool} {g g':Nat→AV} (hf:f'=true→f=true) (h:∀ i,i<n→AEq (g i) (g' i)):AEq (.row e f n g) (.row e f' n g'):=⟨f',g',rfl,hf,h⟩
theorem AEq.of_eq {x y:AV} (h:x=y):AEq x y:=h▸AEq.refl x
def Fz (m:Id→Option Ob) (F:Id→Nat) (T:Nat→TI) (x y:AV):Prop:=x=y∨match x with
 | .v v=>v = .slice none 0 0∧((∃ id cap,y = .own id 0 0 0 cap) ∨ ∃ e f g,y = .row e f 0 g∧0<(T e).size)
 | .own id n i len cap => ∃ B f g',m id=some (.cells B)∧B.n=n∧y = .row B.ty f len g'∧(f=true→I5 len cap=true)∧i+len≤F id ∧ ∀ j,j<len→dw (B.get (i+j))=true∧AEq (B.get (i+j)) (g' j)
 | .ptr id n i p => ∃ B t y',m id=some (.cells B)∧B.n=n∧y = .rp t y'∧i<F id∧aJ T B.ty p=some t∧dw ((B.get i).at p)=true∧AEq ((B.get i).at p) y'
 | _=>False
def Conv (m:Id→Option Ob) (F:Id→Nat) (T:Nat→TI):AV→AV→Prop:=CV (Fz m F T)
section
variable {P:Program} {T:Nat→TI} {N:Nat}
theorem JR {S:AV→AV→Prop}:∀ {l l':List AV},CVL S l l'→l'.length=l.length ∧ ∀ (i:Nat) (y:AV),l'[i]? = some y → ∃ x,l[i]? = some x∧CV S x y
 | [],l',h=>by cases (show l'=[]from h);exact ⟨rfl,fun i y hi=>by simp at hi⟩
 | x::r,l',h=>by
  obtain ⟨y,r',rfl,h1,h2⟩:=h;obtain ⟨h3,h4⟩:=JR h2;refine ⟨by simp [h3],fun i z hi=>?_⟩;cases i with
  | zero=>simp at hi;subst hi;exact ⟨x,rfl,h1⟩
  | succ i=>simpa using h4 i z (by simpa using hi)
def EC:AV→Bool
 | .v _ | .own .. | .arr .. | .ptr .. | .mp _=>true
 | _=>false
def BD (T:Nat→TI) (N:Nat) (I I':Imm) (ρ0:Pl) (S:AV→AV→Prop):Prop :=
 ∀ (ρ:Pl) (x y:AV) (cs:List Value),(∀ id p,ρ id=some p→ρ0 id=some p)→EC x=true→S x y→Rep T N I ρ x cs→Rep T N I' ρ y cs ∧ ∀ t,fit T t y=fit T t x
theorem Rep.cv {I I':Imm} {ρ0:Pl} {S:AV→AV→Prop} (hI:iQ I I') (hS:BD T N I I' ρ0 S) {ρ:Pl} {x:AV} {cs:List Value} (h:Rep T N I ρ x cs):(∀ id p,ρ id=some p→ρ0 id=some p) → ∀ y,CV S x y→Rep T N I' ρ y cs ∧ ∀ t,fit T t y=fit T t x:=by
 induction h with
 | v h=>intro hρ y hy;exact hS _ _ _ _ hρ rfl hy (.v h)
 | struct fs segs hk hn ht h hf hl ih =>
  rintro hρ y ⟨g',rfl,hy⟩;refine ⟨.struct fs segs hk hn ht (fun i u hu=>(ih i u hu hρ _ (hy i (by rw [← hn];exact (List.getElem?_eq_some_iff.1 hu).1))).1) (fun i u hu=>?_) hl,fun t=>rfl⟩;rw [(ih i u hu hρ _ (hy i (by rw [← hn];exact (List.getElem?_eq_some_iff.1 hu).1))).2];exact hf i u hu
 | array e segs hk ht h hf hl ih =>
  rintro hρ y ⟨g',rfl,hy⟩;refine ⟨.array e segs hk ht (fun i h'=>(ih i h' hρ _ (hy i h')).1) (fun i h'=>?_) hl,fun t=>rfl⟩;rw [(ih i h' hρ _ (hy i h')).2];exact hf i h'
 | row b off cap segs he hc hm hfull h hf hl hi ih =>
  rintro hρ y ⟨f',g',rfl,hff,hy⟩;refine ⟨.row b off cap segs he hc hm (fun e=>hfull (hff e)) (fun i h'=>(ih i h' (fun id p hp=>by simp [iI]at hp) _ (hy i h')).1) (fun i h'=>?_) hl (fun i hi' o ho=>?_),fun t=>rfl⟩
  ·rw [(ih i h' (fun id p hp=>by simp [iI]at hp) _ (hy i h')).2];exact hf i h'
  ·have h1:=hi i hi' o ho;have h2:o<(segs i).length:=by rw [hl i hi'];exact ho
   rw [List.getElem?_eq_getElem h2]at h1 ⊢;exact hI _ _ _ h1
 | row0 he =>
  rintro hρ y ⟨f',g',rfl,hff,hy⟩;exact ⟨.row0 he,fun t=>rfl⟩
 | rp b off seg ht h hf hl hi ih =>
  rintro hρ y ⟨x',rfl,hy⟩;obtain ⟨g1,g2⟩:=ih (fun id p hp=>by simp [iI]at hp) _ hy;refine ⟨.rp b off seg ht g1 (by rw [g2];exact hf) hl (fun o ho=>?_),fun t=>rfl⟩;have h1:=hi o ho
  have h2:o<seg.length:=by rw [hl];exact ho
  rw [List.getElem?_eq_getElem h2]at h1 ⊢;exact hI _ _ _ h1
 | own p hp hn hx1 hx=>intro hρ y hy;exact hS _ _ _ _ hρ rfl hy (.own p hp hn hx1 hx)
 | own0=>intro hρ y hy;exact hS _ _ _ _ hρ rfl hy .own0
 | arr p hp hn hx1 hx=>intro hρ y hy;exact hS _ _ _ _ hρ rfl hy (.arr p hp hn hx1 hx)
 | ptr p hp hn hx1 hx=>intro hρ y hy;exact hS _ _ _ _ hρ rfl hy (.ptr p hp hn hx1 hx)
 | clo ys hl h ih =>
  rintro hρ y ⟨cs',rfl,hy⟩;obtain ⟨h1,h2⟩:=JR hy;refine ⟨.clo ys (by rw [h1];exact hl) (fun i c hc=>?_),fun t=>rfl⟩;obtain ⟨x',h3,h4⟩:=h2 i c hc;exact (ih i x' h3 hρ _ h4).1
 | mp p hp hx1 hx=>intro hρ y hy;exact hS _ _ _ _ hρ rfl hy (.mp p hp hx1 hx)
theorem OD (I I':Imm) (ρ0:Pl) (hI:iQ I I'):BD T N I I' ρ0 (fun x y=>x=y):=by
 rintro ρ x y cs hρ _ rfl h;exact ⟨h.mono hI (iP.refl _),fun t=>rfl⟩
theorem Rep.aeq {I:Imm} {ρ:Pl} {x y:AV} {cs:List Value} (h:Rep T N I ρ x cs) (hy:AEq x y):Rep T N I ρ y cs ∧ ∀ t,fit T t y=fit T t x :=
 h.cv (iQ.refl _) (OD I I ρ (iQ.refl _)) (fun _ _ h=>h) y hy
theorem Ed {S:AV→AV→Prop} (hS:∀ x y,EC x=true→S x y → ∀ t n g,y ≠ .agg t n g) {x y:AV} (h:CV S x y) (cs:List Value):bZ y cs=bZ x cs:=by
 have leaf:∀ x y:AV,EC x=true→S x y→bZ y cs=bZ x cs:=by
  intro x y hx h;have h1:=hS x y hx h
  unfold bZ;split
  ·exact absurd rfl (h1 _ _ _)
  ·split
   ·cases hx
   ·rfl
 cases x with
 | agg t n g=>obtain ⟨g',rfl,_⟩:=h;rfl
 | row e f n g=>obtain ⟨f',g',rfl,_⟩:=h;rfl
 | rp t x=>obtain ⟨x',rfl,_⟩:=h;rfl
 | clo f cs=>obtain ⟨cs',rfl,_⟩:=h;rfl
 | tup vs=>obtain ⟨vs',rfl,_⟩:=h;rfl
 | _=>exact leaf _ _ rfl h
theorem CX (hT:TOK P T N) {I:Imm} {ρ0:Pl} {m:Id→Option Ob} {w:World} (hw:dR T N I ρ0 m w) {I':Imm} (hI:iQ I I') {F:Id→Nat}
 (hF:∀ id B q cs,m id=some (.cells B)→ρ0 id=some q→w.heap[q.b]? = some (.cells cs B.ty (0,0))→F id≤B.n ∧ ∀ j,j<F id*(T B.ty).size→I' q.b j=cs[j]?):BD T N I I' ρ0 (Fz m F T):=by
 intro ρ x y cs hρ hl h hx;rcases h with rfl | h
 ·exact ⟨hx.mono hI (iP.refl _),fun t=>rfl⟩
 ·split at h
  ·obtain ⟨rfl,⟨id,cap,rfl⟩ | ⟨e,f,g,rfl,hp⟩⟩:=h
   ·cases hx;exact ⟨.own0,fun t=>rfl⟩
   ·cases hx;exact ⟨.row0 (hT.lt_size hp),fun t=>rfl⟩
  ·rename_i id n i len cap;obtain ⟨B,f,g',hm,hB,rfl,hf,hle,hel⟩:=h;refine ⟨?_,fun t=>rfl⟩
   cases hx with
   | own0=>exact .row0 (hw.ty_lt hm)
   | own p hp hn hx1 hx =>
    have hp0:=hρ _ _ hp;obtain ⟨q',cs,c1,c2,c3,c4,c5,c6,c7,c8,c9,c10⟩:=hw.cellsAt hm hp0;rw [hp0]at c1;cases c1;obtain ⟨c,rfl,g1,g2,g3,g4,g5,g6⟩:=hx (by rw [c3,hB]);obtain ⟨f1,f2⟩:=hF id B p cs hm hp0 c5;have hex:∀ k,∃ seg,k<len→Rep T N I ρ0 (B.get (i+k)) seg∧fit T B.ty (B.get (i+k))=true∧seg.length=(T B.ty).size ∧ ∀ o,o<(T B.ty).size→cs[(i+k)*(T B.ty).size+o]? = seg[o]? := by
     intro k;by_cases hk:k<len
     ·obtain ⟨seg,hs⟩:=c8 (i+k) (by omega);exact ⟨seg,fun _=>hs⟩
     ·exact ⟨[],fun h=>absurd h hk⟩
    have hseg:=fun k=>Classical.choose_spec (hex k);refine .row p.b (i*(T p.ty).size) c (fun k=>Classical.choose (hex k)) c4 g1 g2 (fun h=>g6 _ (EG (hf h))) (fun k hk=>((((hseg k hk).1.dw (hel k hk).1 iI).mono hI (iP.refl _)).aeq (hel k hk).2).1) (fun k hk=>?_) (fun k hk=>(hseg k hk).2.2.1) (fun k hk o ho=>?_)
    ·rw [((hseg k hk).1.aeq (hel k hk).2).2];exact (hseg k hk).2.1
    ·have h1:=(hseg k hk).2.2.2 o ho;rw [← h1,c2];have e1:i*(T B.ty).size+(k*(T B.ty).size+o)=(i+k)*(T B.ty).size+o:=by rw [Nat.add_mul];omega
     have e2:(i+k+1)*(T B.ty).size≤F id*(T B.ty).size:=Nat.mul_le_mul_right _ (by omega);rw [Nat.succ_mul]at e2;rw [e1];exact f2 _ (by omega)
  ·rename_i id n i p;obtain ⟨B,t,y',hm,hB,rfl,hlt,hpt,hno,hel⟩:=h;refine ⟨?_,fun t=>rfl⟩
   cases hx with
   | ptr q hp hn hx1 hx =>
    have hp0:=hρ _ _ hp;obtain ⟨q',cs,c1,c2,c3,c4,c5,c6,c7,c8,c9,c10⟩:=hw.cellsAt hm hp0;rw [hp0]at c1;cases c1;obtain ⟨hi,hpi,rfl⟩:=hx (by rw [c3,hB]);obtain ⟨f1,f2⟩:=hF id B q cs hm hp0 c5;have hpi':pathIn T B.ty p:=c2▸hpi
    obtain ⟨sg,r1,r2,r3,r4⟩:=c8 i (by omega);obtain ⟨seg,k1,k2,k3,k4⟩:=r1.at p r2 r3 hpt hpi';have hle:=iD r1 r2 r3 hpt hpi'
    have ha:=((k1.dw hno iI).mono hI (iP.refl _)).aeq hel;refine .rp q.b (i*(T q.ty).size+aF T q.ty p) seg (hT.pathLt p c4 hpt) ha.1 (by rw [ha.2];exact k2) k3 (fun o ho=>?_);rw [c2,← k4 o ho];have e2:(i+1)*(T B.ty).size≤F id*(T B.ty).size:=Nat.mul_le_mul_right _ (by omega)
    rw [Nat.succ_mul]at e2;rw [Nat.add_assoc,f2 _ (by omega),r4 _ (by omega)]
  ·exact h.elim
end
def kF (k:Nat):List (Nat×AV)→Option AV
 | []=>none
 | (j,x)::r=>bif Nat.beq k j then some x else kF k r
def kC (id:Id):List (Id×Ob)→Option Ob
 | []=>none
 | (j,x)::r=>bif Id.beq id j then some x else kC id r
def eH (id:Id):List (Id×Nat)→Nat
 | []=>0
 | (j,x)::r=>bif Id.beq id j then x else eH id r
def aP (ts:List (Nat×AV)) (ms:List (Id×Ob)):St:=⟨fun k=>(kF k ts).map fun x=>(.always,x),fun id=>kC id ms⟩
def ObC (m:Id→Option Ob) (F:Id→Nat) (T:Nat→TI) (k:Nat):Ob→Ob→Prop
 | .cells B,o => ∃ get fz,o = .cells ⟨B.ty,B.n,get,fz⟩∧B.fz≤fz∧k≤fz∧fz≤B.n ∧ ∀ i,i<B.n→Conv m F T (B.get i) (get i)
 | .map es,o=>o = .map es ∨ ∃ es',o = .map es'∧es'.length=es.length ∧ ∀ (i:Nat) (p':AV×AV),es'[i]? = some p' → ∃ p,es[i]? = some p∧Conv m F T p.1 p'.1∧Conv m F T p.2 p'.2
def PN (T:Nat→TI) (st:St) (F:List (Id×Nat)) (keep:List Id):List (Nat×AV)→Prop
 | []=>True
 | (k,x)::r=>(dM keep x=true ∧ ∃ x',st.t k=some (.always,x')∧Conv st.m (fun id=>eH id F) T x' x)∧PN T st F keep r
def PO (T:Nat→TI) (st:St) (F:List (Id×Nat)) (keep:List Id):List (Id×Ob)→Prop
 | []=>True
 | (id,o)::r=>(okO keep o∧((∃ o',st.m id=some o'∧ObC st.m (fun id=>eH id F) T (eH id F) o' o) ∨
  (st.m id=none ∧ ∃ e get,o = .cells ⟨e,0,get,0⟩∧0<(T e).size)))∧PO T st F keep r
def Nz (st:St):List (Id×Nat)→Prop
 | []=>True
 | (id,k)::r=>(∃ B,st.m id=some (.cells B)∧k≤B.n)∧Nz st r
section
variable {P:Program} {T:Nat→TI} {N:Nat}
theorem qZ {k:Nat}:∀ {l:List (Nat×AV)} {x:AV},kF k l=some x→(k,x)∈l
 | [],_,h=>by cases h
 | (j,y)::r,x,h=>by
  by_cases e:k=j
  ·subst e;simp [kF]at h;subst h;simp
  ·simp only [kF,gQ e,cond_false]at h;exact List.mem_cons_of_mem _ (qZ h)
theorem oD {id:Id}:∀ {l:List (Id×Ob)} {x:Ob},kC id l=some x→(id,x)∈l
 | [],_,h=>by cases h
 | (j,y)::r,x,h=>by
  by_cases e:id=j
  ·subst e;simp [kC,aN]at h;subst h;simp
  ·simp only [kC,l7 e,cond_false]at h;exact List.mem_cons_of_mem _ (oD h)
theorem Aj {id:Id}:∀ {l:List (Id×Ob)},fV (l.map (·.1)) id=true→kC id l≠none
 | [],h=>by cases h
 | (j,y)::r,h=>by
  by_cases e:id=j
  ·subst e;simp [kC,aN]
  ·simp only [kC,l7 e,cond_false];refine Aj ?_;rw [eF]at h ⊢;simp only [List.map_cons,List.mem_cons]at h;exact h.resolve_left e
theorem F7 {id:Id} {l:List (Id×Ob)} {x:Ob} (h:kC id l=some x):fV (l.map (·.1)) id=true:=by
 rw [eF];exact List.mem_map.2 ⟨_,oD h,rfl⟩
theorem Jl {st:St} {F:List (Id×Nat)} {keep:List Id}:∀ {l:List (Nat×AV)} {k:Nat} {x:AV},PN T st F keep l→(k,x)∈l→dM keep x=true ∧ ∃ x',st.t k=some (.always,x')∧Conv st.m (fun id=>eH id F) T x' x
 | [],_,_,_,h=>by cases h
 | (j,y)::r,k,x,h,hm=>by
  cases hm with
  | head=>exact h.1
  | tail _ hm=>exact Jl h.2 hm
theorem Dh {st:St} {F:List (Id×Nat)} {keep:List Id}:∀ {l:List (Id×Ob)} {id:Id} {o:Ob},PO T st F keep l→(id,o)∈l→okO keep o∧((∃ o',st.m id=some o'∧ObC st.m (fun id=>eH id F) T (eH id F) o' o) ∨
 (st.m id=none ∧ ∃ e get,o = .cells ⟨e,0,get,0⟩∧0<(T e).size))
 | [],_,_,_,h=>by cases h
 | (j,y)::r,k,x,h,hm=>by
  cases hm with
  | head=>exact h.1
  | tail _ hm=>exact Dh h.2 hm
theorem yQ {st:St}:∀ {l:List (Id×Nat)},Nz st l → ∀ {id:Id} {B:Blk},st.m id=some (.cells B)→eH id l≤B.n
 | [],_,_,_,_=>Nat.zero_le _
 | (j,k)::r,h,id,B,hm=>by
  by_cases e:id=j
  ·subst e;obtain ⟨B',h1,h2⟩:=h.1;rw [hm]at h1;cases h1;simpa [eH,aN]using h2
  ·simp only [eH,l7 e,cond_false];exact yQ h.2 hm
def uX (keep:List Id) (ρ:Pl):Pl:=fun id=>if fV keep id=true then ρ id else none
theorem Rep.keep {I:Imm} {ρ:Pl} {x:AV} {cs:List Value} (h:Rep T N I ρ x cs):∀ {keep:List Id},dM keep x=true→Rep T N I (uX keep ρ) x cs:=by
 have hk:∀ {ρ:Pl} {keep:List Id} {id:Id} {p:Place},fV keep id=true→ρ id=some p→uX keep ρ id=some p:=fun h hp=>by unfold uX;rw [if_pos h];exact hp
 induction h with
 | v h=>intro _ _;exact .v h
 | struct fs segs hkk hn ht h hf hl ih =>
  intro keep hi;simp only [dM,List.all_eq_true,List.mem_range]at hi;exact .struct fs segs hkk hn ht (fun i u hu=>ih i u hu (hi i (by rw [← hn];exact (List.getElem?_eq_some_iff.1 hu).1))) hf hl
 | array e segs hkk ht h hf hl ih =>
  intro keep hi;simp only [dM,List.all_eq_true,List.mem_range]at hi;exact .array e segs hkk ht (fun i h'=>ih i h' (hi i h')) hf hl
 | row b off cap segs he hc hm hfull h hf hl hI ih=>intro _ _;exact .row b off cap segs he hc hm hfull h hf hl hI
 | row0 he=>intro _ _;exact .row0 he
 | rp b off seg ht h hf hl hI=>intro _ _;exact .rp b off seg ht h hf hl hI
 | own p hp hn hx1 hx=>intro keep hi;exact .own p (hk hi hp) hn hx1 hx
 | own0=>intro _ _;exact .own0
 | arr p hp hn hx1 hx=>intro keep hi;exact .arr p (hk hi hp) hn hx1 hx
 | ptr p hp hn hx1 hx=>intro keep hi;exact .ptr p (hk hi hp) hn hx1 hx
 | clo ys hl h ih =>
  intro keep hi;simp only [dM,nN,List.all_eq_true]at hi;exact .clo ys hl (fun i c hc=>ih i c hc (hi c (List.mem_of_getElem? hc)))
 | mp p hp hx1 hx=>intro keep hi;exact .mp p (hk hi hp) hx1 hx
theorem dI.keep {I:Imm} {ρ:Pl} {x:AV} {y:Value} (h:dI T N I ρ x y) {keep:List Id} (hk:dM keep x=true):dI T N I (uX keep ρ) x y:=by
 obtain ⟨cs,h1,h2⟩:=h;exact ⟨cs,h1.keep hk,h2⟩
theorem gI.keep {I:Imm} {ρ:Pl} {x:AV} {y:Value} (h:gI T N I ρ x y) {keep:List Id} (hk:dM keep x=true):gI T N I (uX keep ρ) x y:=by
 cases h with
 | one h=>exact .one (h.keep hk)
 | tup ys hl h =>
  simp only [dM,nN,List.all_eq_true]at hk;exact .tup ys hl (fun i c hc=>(h i c hc).keep (hk c (List.mem_of_getElem? hc)))
theorem EF {m:Id→Option Ob} {F:Id→Nat} (x y:AV) (hx:EC x=true) (h:Fz m F T x y):∀ t n g,y ≠ .agg t n g:=by
 rintro t n g rfl;rcases h with rfl | h
 ·cases hx
 ·split at h
  ·obtain ⟨_,⟨_,_,h⟩ | ⟨_,_,_,h,_⟩⟩:=h <;> cases h
  ·obtain ⟨_,_,_,_,_,h,_⟩:=h;cases h
  ·obtain ⟨_,_,_,_,_,h,_⟩:=h;cases h
  ·exact h
theorem gI.conv {I I':Imm} {ρ:Pl} {m:Id→Option Ob} {F:Id→Nat} {x y:AV} {v:Value} (h:gI T N I ρ x v) (hI:iQ I I') (hS:BD T N I I' ρ (Fz m F T)) (hc:Conv m F T x y):gI T N I' ρ y v:=by
 have one:∀ {x y:AV} {v:Value},dI T N I ρ x v→Conv m F T x y→dI T N I' ρ y v:=by
  rintro x y v ⟨cs,h1,h2⟩ hc;exact ⟨cs,(h1.cv hI hS (fun _ _ h=>h) y hc).1,by rw [Ed EF hc];exact h2⟩
 cases h with
 | one h=>exact .one (one h hc)
 | tup ys hl h =>
  obtain ⟨vs',rfl,hv⟩:=hc;obtain ⟨h1,h2⟩:=JR hv;refine .tup ys (by rw [h1];exact hl) (fun i c hi=>?_);obtain ⟨x',h3,h4⟩:=h2 i c hi;exact one (h i x' h3) h4
theorem dI.conv {I I':Imm} {ρ:Pl} {m:Id→Option Ob} {F:Id→Nat} {x y:AV} {v:Value} (h:dI T N I ρ x v) (hI:iQ I I') (hS:BD T N I I' ρ (Fz m F T)) (hc:Conv m F T x y):dI T N I' ρ y v:=by
 obtain ⟨cs,h1,h2⟩:=h;exact ⟨cs,(h1.cv hI hS (fun _ _ h=>h) y hc).1,by rw [Ed EF hc];exact h2⟩
open Classical in
noncomputable def zi (T:Nat→TI) (I:Imm) (ρ:Pl) (m:Id→Option Ob) (w:World) (F:Id→Nat):Imm:=fun b o =>
 if ∃ id q B,ρ id=some q∧m id=some (.cells B)∧q.b=b∧o<F id*(T B.ty).size then w.cell? ⟨b,o,none⟩else I b o
theorem QB (hT:TOK P T N) {e:Entry} {st:St} (F:List (Id×Nat)) {ts:List (Nat×AV)} {ms:List (Id×Ob)} (hF:Nz st F) (ht:PN T st F (ms.map (·.1)) ts) (hm:PO T st F (ms.map (·.1)) ms) (hb:(bs e.nb).all (fV (ms.map (·.1)))=true)
 {I:Imm} {ρ:Pl} {a:Act} {w:World} (hs:dU T N e I ρ st a w):∃ I' ρ',dU T N e I' ρ' (aP ts ms) a w:=by
 have hw:=hs.wr;have hcond:∀ {b o:Nat},(∃ id q B,ρ id=some q∧st.m id=some (.cells B)∧q.b=b∧o<eH id F*(T B.ty).size) → ∃ id q B cs,ρ id=some q∧st.m id=some (.cells B)∧q.b=b∧o<eH id F*(T B.ty).size∧w.heap[b]? = some (.cells cs B.ty (0,0))∧o<cs.size∧w.cell? ⟨b,o,none⟩=cs[o]? := by
  rintro b o ⟨id,q,B,h1,h2,rfl,h4⟩;obtain ⟨q',cs,c1,c2,c3,c4,c5,c6,c7,c8,c9,c10⟩:=hw.cellsAt h2 h1;rw [h1]at c1;cases c1;have:eH id F*(T B.ty).size≤B.n*(T B.ty).size:=Nat.mul_le_mul_right _ (yQ hF h2)
  exact ⟨id,q,B,cs,h1,h2,rfl,h4,c5,by omega,by simp [World.cell?,c5]⟩
 have hI:iQ I (zi T I ρ st.m w (fun id=>eH id F)):=by
  intro b o y h;unfold zi;split
  ·exact hw.imm b o y h
  ·exact h
 have hS:=CX hT hw hI (F:=fun id=>eH id F) (fun id B q cs h1 h2 h3=>⟨yQ hF h1,fun j hj=>by
  unfold zi;rw [if_pos ⟨id,q,B,h2,h1,rfl,hj⟩];simp [World.cell?,h3]⟩)
 have hkeepI:∀ {id:Id} {o:Ob},kC id ms=some o→uX (ms.map (·.1)) ρ id=ρ id:=fun h=>by unfold uX;rw [if_pos (F7 h)]
 have hkp:∀ {id:Id} {p:Place},uX (ms.map (·.1)) ρ id=some p→ρ id=some p∧fV (ms.map (·.1)) id=true:=fun {id p} h=>by
  unfold uX at h;split at h
  ·rename_i hh;exact ⟨h,hh⟩
  ·cases h
 refine ⟨zi T I ρ st.m w (fun id=>eH id F),uX (ms.map (·.1)) ρ,⟨⟨?_,?_,?_,?_,?_,fun b o n h=>hI _ _ _ (hw.gl b o n h)⟩,?_,hs.nt,⟨hs.df.1.sub (fun id p hp=>⟨id,(hkp hp).1⟩),hs.df.2⟩,?_,hs.eb⟩⟩
 ·intro id B' hB';have hB':kC id ms=some (.cells B'):=hB'
  obtain ⟨hok,h⟩:=Dh hm (oD hB');rcases h with ⟨o',h1,h2⟩ | ⟨h1,e',get,h2,h3⟩
  ·cases o' with
   | map es=>rcases h2 with h2 | ⟨es',h2,_⟩ <;> cases h2
   | cells B =>
    obtain ⟨get,fz,h2,h3,h4,h5,h6⟩:=h2;cases h2;rcases hw.cells id B h1 with ⟨d1,d2,d3,d4⟩ | ⟨p,cs,d1,d2,d3,d4,d5,d6,d7,d8,d9,d10⟩
    ·exact .inl ⟨by rw [hkeepI hB'];exact d1,d2,by simp only;omega,d4⟩
    ·refine .inr ⟨p,cs,by rw [hkeepI hB'];exact d1,d2,d3,d4,d5,d6,d7,fun i hi=>?_,fun j hj=>?_,h5⟩
     ·obtain ⟨seg,e1,e2,e3,e4⟩:=d8 i hi;obtain ⟨g1,g2⟩:=e1.cv hI hS (fun _ _ h=>h) _ (h6 i hi);exact ⟨seg,g1.keep (hok i hi),by rw [g2];exact e2,e3,e4⟩
     ·unfold zi at hj;split at hj
      ·rename_i hcd;obtain ⟨id2,q2,B2,k1,k2,k3,k4⟩:=hcd;have:=hw.inj id2 id q2 p k1 d1 k3
       subst this;rw [h1]at k2;cases k2;exact Nat.lt_of_lt_of_le k4 (Nat.mul_le_mul_right _ h4)
      ·exact Nat.lt_of_lt_of_le (d9 j hj) (Nat.mul_le_mul_right _ h3)
  ·cases h2;exact .inl ⟨by rw [hkeepI hB'];exact hw.none_place h1,rfl,rfl,hT.lt_size h3⟩
 ·intro id es' hB';have hB':kC id ms=some (.map es'):=hB'
  obtain ⟨hok,h⟩:=Dh hm (oD hB');rcases h with ⟨o',h1,h2⟩ | ⟨h1,e',get,h2,h3⟩
  ·cases o' with
   | cells B=>obtain ⟨get,fz,h2,_⟩:=h2;cases h2
   | map es =>
    obtain ⟨p,en,cl,d1,d2,d3,d4,d5,d6⟩:=hw.maps id es h1;have hd5:∀ j,zi T I ρ st.m w (fun id=>eH id F) p.b j=none:=by
     intro j;unfold zi;split
     ·rename_i hcd;obtain ⟨id2,q2,B2,k1,k2,k3,k4⟩:=hcd;have:=hw.inj id2 id q2 p k1 d1 k3
      subst this;rw [h1]at k2;cases k2
     ·exact d5 j
    rcases h2 with h2 | ⟨es2,h2,h3,h4⟩
    ·cases h2;refine ⟨p,en,cl,by rw [hkeepI hB'];exact d1,d2,d3,d4,hd5,fun i k v hi=>?_⟩;obtain ⟨e,e1,e2,e3⟩:=d6 i k v hi;have:=hok _ (List.mem_of_getElem? hi)
     exact ⟨e,e1,(e2.mono hI (iP.refl _)).keep this.1,(e3.mono hI (iP.refl _)).keep this.2⟩
    ·cases h2;refine ⟨p,en,cl,by rw [hkeepI hB'];exact d1,d2,d3,by rw [h3];exact d4,hd5,fun i k v hi=>?_⟩;obtain ⟨pp,k1,k2,k3⟩:=h4 i _ hi;obtain ⟨e,e1,e2,e3⟩:=d6 i pp.1 pp.2 k1;have:=hok _ (List.mem_of_getElem? hi)
     exact ⟨e,e1,(e2.conv hI hS k2).keep this.1,(e3.conv hI hS k3).keep this.2⟩
  ·cases h2
 ·intro id p hp;exact Aj (hkp hp).2
 ·intro i j p q hp hq h;exact hw.inj i j p q (hkp hp).1 (hkp hq).1 h
 ·intro b o y hy;unfold zi at hy;split at hy
  ·exact hy
  ·exact hw.imm b o y hy
 ·intro t d x hx;simp only [aP,Option.map_eq_some_iff,Prod.mk.injEq]at hx;obtain ⟨x0,h1,rfl,rfl⟩:=hx;obtain ⟨h2,x',h3,h4⟩:=Jl ht (qZ h1);refine ⟨fun _=>?_,fun h=>absurd trivial h⟩;exact (((hs.tm t _ _ h3).1 trivial).conv hI hS h4).keep h2
 ·have hev:=hs.ev;refine ⟨hev.imm.trans hI,fun b o h h'=>?_,fun id p hp=>?_,fun id p hp=>hev.plN id p (hkp hp).1,hev.frame,hev.size,hev.os,hev.output,hev.tape⟩
  ·unfold zi at h';split at h'
   ·rename_i hcd;obtain ⟨id,q,B,k1,k2,rfl,k4⟩:=hcd;exact hev.plN id q k1
   ·exact hev.immN b o h h'
  ·obtain ⟨j,hj,rfl⟩:=hs.eb id p hp;have:fV (ms.map (·.1)) (.b j)=true:=List.all_eq_true.1 hb _ (eF.1 (NG.2 ⟨j,hj,rfl⟩))
   obtain ⟨p',h1,h2⟩:=hev.pl _ p hp;exact ⟨p',by unfold uX;rw [if_pos this];exact h1,h2⟩
end
abbrev Post:=Exit→St→Prop
def Rfn (r:Option Nat) (d:Bool):Prop:=r=none∧d=false
def Sz (_:Option Nat) (_:Bool):Prop:=True
def WP (R:Option Nat→Bool→Prop) (P:Program) (T:Nat→TI) (N nt nb:Nat) (c:Code) (post:Post) (st:St):Prop :=
 ∀ (e:Entry),e.nt=nt→e.nb=nb → ∀ (I:Imm) (ρ:Pl) (a:Act) (w:World),dU T N e I ρ st a w → ∀ (rd:Option Nat),R rd e.nd → ∀ n:Nat,
  c.wpIn (jH rd) n P (fun ex a' w' => ∃ st' I' ρ',post ex st'∧dU T N e I' ρ' st' a' w') a w
def Ent (T:Nat→TI) (N nt nb:Nat) (st st':St):Prop := ∀ (e:Entry),e.nt=nt→e.nb=nb → ∀ (I:Imm) (ρ:Pl) (a:Act) (w:World),dU T N e I ρ st a w → ∃ I' ρ',dU T N e I' ρ' st' a w
def J7 (next:St→Prop) (post:Post):Post:=fun ex st=>match ex with
 | .normal=>next st
 | ex=>post ex st
def QU (id:Nat) (post:Post):Post:=fun ex st=>match ex with
 | .exit id'=>bif Nat.beq id' id then post .normal st else post (.exit id') st
 | ex=>post ex st
section
variable {R:Option Nat→Bool→Prop} {P:Program} {T:Nat→TI} {N nt nb:Nat} {post:Post} {st:St}
theorem Ent.refl (st:St):Ent T N nt nb st st:=fun _ _ _ I ρ _ _ h=>⟨I,ρ,h⟩
theorem Ent.trans {st st1 st2:St} (h:Ent T N nt nb st st1) (k:Ent T N nt nb st1 st2):Ent T N nt nb st st2:=fun e h1 h2 I ρ a w hs=>by
 obtain ⟨I1,ρ1,hs1⟩:=h e h1 h2 I ρ a w hs;exact k e h1 h2 I1 ρ1 a w hs1
theorem Ent.mk (hT:TOK P T N) (F:List (Id×Nat)) {ts:List (Nat×AV)} {ms:List (Id×Ob)} (hF:Nz st F) (ht:PN T st F (ms.map (·.1)) ts) (hm:PO T st F (ms.map (·.1)) ms) (hb:(bs nb).all (fV (ms.map (·.1)))=true):Ent T N nt nb st (aP ts ms) :=
 fun e h1 h2 I ρ a w hs=>QB hT F hF ht hm (by rw [h2];exact hb) hs
theorem WP.ent {c:Code} {st':St} (h:Ent T N nt nb st st') (k:WP R P T N nt nb c post st'):WP R P T N nt nb c post st:=fun e h1 h2 I ρ a w hs=>by
 obtain ⟨I',ρ',hs'⟩:=h e h1 h2 I ρ a w hs;exact k e h1 h2 I' ρ' a w hs'
theorem WP.mono {c:Code} {post':Post} (h:WP R P T N nt nb c post st) (k:∀ ex st,post ex st→post' ex st):WP R P T N nt nb c post' st:=fun e h1 h2 I ρ a w hs rd hr n =>
 wpIn_mono (h e h1 h2 I ρ a w hs rd hr n) (fun ex a w ⟨st',I',ρ',q,r⟩=>⟨st',I',ρ',k _ _ q,r⟩)
theorem WP.skip (h:post .normal st):WP R P T N nt nb .skip post st:=fun e h1 h2 I ρ a w hs rd hr n=>wpIn_skip ⟨st,I,ρ,h,hs⟩
theorem WP.exit {id:Nat} (h:post (.exit id) st):WP R P T N nt nb (.exit id) post st:=fun e h1 h2 I ρ a w hs rd hr n=>wpIn_exit ⟨st,I,ρ,h,hs⟩
theorem WP.ret (h:post .ret st):WP R P T N nt nb .ret post st:=fun e h1 h2 I ρ a w hs rd hr n=>wpIn_ret ⟨st,I,ρ,h,hs⟩
theorem WP.seq {x y:Code} (h:WP R P T N nt nb x (J7 (WP R P T N nt nb y post) post) st):WP R P T N nt nb (.seq x y) post st:=fun e h1 h2 I ρ a w hs rd hr n=>by
 refine wpIn_seq (wpIn_mono (h e h1 h2 I ρ a w hs rd hr n) ?_);rintro ex a' w' ⟨st',I',ρ',q,r⟩;cases ex with
 | normal=>exact q e h1 h2 I' ρ' a' w' r rd hr n
 | _=>exact ⟨st',I',ρ',q,r⟩
theorem WP.block {id:Nat} {c:Code} (h:WP R P T N nt nb c (QU id post) st):WP R P T N nt nb (.block id c) post st:=fun e h1 h2 I ρ a w hs rd hr n=>by
 refine wpIn_block (wpIn_mono (h e h1 h2 I ρ a w hs rd hr n) ?_);rintro ex a' w' ⟨st',I',ρ',q,r⟩;cases ex with
 | exit id' =>
  simp only [Exit.inBlock];by_cases hi:id'=id
  ·subst hi;rw [if_pos rfl];simp only [QU,Nat.beq_refl,cond_true]at q;exact ⟨st',I',ρ',q,r⟩
  ·rw [if_neg hi];simp only [QU,gQ hi,cond_false]at q;exact ⟨st',I',ρ',q,r⟩
 | _=>exact ⟨st',I',ρ',q,r⟩
theorem WP.cond {c:Operand} {x y:Code} {b:Bool} (hc:ev st c=some (.always,.v (.bool b))) (ht:b=true→WP R P T N nt nb x post st) (hf:b=false→WP R P T N nt nb y post st):WP R P T N nt nb (.cond c x y) post st:=fun e h1 h2 I ρ a w hs rd hr n=>by
 obtain ⟨hv,_⟩:=(rY hs hc trivial).v;refine wpIn_cond_split hv (fun h=>ht h e h1 h2 I ρ a w hs rd hr n) (fun h=>hf h e h1 h2 I ρ a w hs rd hr n)
theorem WP.region (hT:TOK P T N) (hE:xH P T N) {id:Nat} {ops:Array Oper} {s':RS} (gs:List CG) (h:evL T (AC P T N) nt ops.toList ops.toList ⟨st,gs,none⟩=some s') (hc:aj s'.c) (hp:post .normal s'.st):WP R P T N nt nb (.region id ops false) post st:=fun e h1 h2 I ρ a w hs rd hr n=>by
 subst h1;exact wpIn_region_list ((Bc hT hE ops.toList ⟨st,gs,none⟩ s' hs h hc (fun I' ρ' a' w' hs'=>⟨s'.st,I',ρ',hp,hs'⟩) rd n).2)
theorem dU.drew {e:Entry} {I:Imm} {ρ:Pl} {a:Act} {w:World} (hs:dU T N e I ρ st a w) {d:Nat} (hd:w.drawn≤d):dU T N e I ρ st a { w with drawn:=d} where
 wr:=⟨hs.wr.cells,hs.wr.maps,hs.wr.dom,hs.wr.inj,hs.wr.imm,hs.wr.gl⟩
 tm:=hs.tm
 nt:=hs.nt
 df:=hs.df
 ev:=⟨hs.ev.imm,hs.ev.immN,hs.ev.pl,hs.ev.plN,hs.ev.frame,hs.ev.size,hs.ev.os,hs.ev.output,hs.ev.tape.1,Nat.le_trans hs.ev.tape.2 hd⟩
 eb:=hs.eb
theorem WP.draws (hT:TOK P T N) (hE:xH P T N) (hmix:P.follows .mixedOrders=true) {id:Nat} {ops:Array Oper} {s':RS} (gs:List CG) (h:evA T (AC P T N) nt ops.toList ⟨st,gs,none⟩=some s') (hc:aj s'.c) (hp:post .normal s'.st):WP R P T N nt nb (.region id ops true) post st:=fun e h1 h2 I ρ a w hs rd hr n=>by
 subst h1;exact wpIn_region_any hmix (Jk hT hE h hc (fun I' ρ' a' w' hs'=>⟨s'.st,I',ρ',hp,hs'⟩) (hs.drew (Nat.le_succ _)) rd n)
theorem WP.loop {c:Code} {α:Type} (S:α→St) (Inv:α→Prop) (μ:α→Nat) (h0:∃ x,Inv x∧Ent T N nt nb st (S x))
 (round:∀ x,Inv x→WP R P T N nt nb c (J7 (fun st' => ∃ y,Inv y∧Ent T N nt nb st' (S y)∧μ y<μ x) post) (S x)):WP R P T N nt nb (.loop c) post st:=fun e h1 h2 I ρ a w hs rd hr n=>by
 intro b k cs hro hb hroom;have key:∀ j x a w,μ x=j→Inv x→(∃ I ρ,dU T N e I ρ (S x) a w) →
  ∃ ex a' w',(∃ st' I' ρ',post ex st'∧dU T N e I' ρ' st' a' w')∧ArrivesIn (Machine.fenced P (jH rd)) P (lone (b.atR a (.code c :: .inLoop c::k)) cs w) b k cs ex a' w':=by
  intro j
  induction j using Nat.strongRecOn with
  | _ j ih =>
   rintro x a w hn hI ⟨I,ρ,hs⟩;obtain ⟨ex,a₁,w₁,⟨st',I',ρ',q,hs'⟩,harr⟩:=round x hI e h1 h2 I ρ a w hs rd hr n b (.inLoop c::k) cs hro hb hroom;cases ex with
   | normal =>
    obtain ⟨y,hy,hent,hlt⟩:=q;obtain ⟨I2,ρ2,hs2⟩:=hent e h1 h2 I' ρ' a₁ w₁ hs';obtain ⟨e₂,a₂,w₂,hq₂,harr₂⟩:=ih (μ y) (hn▸hlt) y a₁ w₁ rfl hy ⟨I2,ρ2,hs2⟩;exact ⟨e₂,a₂,w₂,hq₂,.of_steps (StepsIn.trans harr (.one (fenced_calm (fr:=b.atR a₁ (.inLoop c::k)) hb hroom rfl) stepR_inLoop)) harr₂⟩
   | exit id=>exact ⟨_,a₁,w₁,⟨st',I',ρ',q,hs'⟩,.pass (x := .inLoop c) rfl (fun _ _ => .inl (by simp)) harr⟩
   | goto l=>exact ⟨_,a₁,w₁,⟨st',I',ρ',q,hs'⟩,.pass (x := .inLoop c) rfl (fun _ _ => .inl (by simp)) harr⟩
   | ret=>exact ⟨_,a₁,w₁,⟨st',I',ρ',q,hs'⟩,.pass (x := .inLoop c) rfl (fun _ _ => .inl (by simp)) harr⟩
   | panic ch=>exact ⟨_,a₁,w₁,⟨st',I',ρ',q,hs'⟩,.pass (x := .inLoop c) rfl (fun _ _ => .inl (by simp)) harr⟩
   | outgrown=>exact ⟨_,a₁,w₁,⟨st',I',ρ',q,hs'⟩,.pass (x := .inLoop c) rfl (fun _ _ => .inl (by simp)) harr⟩
 obtain ⟨x0,hi0,hent0⟩:=h0;obtain ⟨I',ρ',hs'⟩:=hent0 e h1 h2 I ρ a w hs;obtain ⟨e2,a',w',hq,harr⟩:=key _ x0 a w rfl hi0 ⟨I',ρ',hs'⟩;exact ⟨e2,a',w',hq,.of_steps (.one (fenced_calm (fr:=b.atR a (.code (.loop c)::k)) hb hroom rfl) stepR_loop) harr⟩
def mJ:AV→Bool
 | .tup _=>false
 | _=>true
def BG (T:Nat→TI) (st:St):List ResultVar→Option (List AV×Option Prop)
 | []=>some ([],none)
 | .tmp t::r=>match st.t t with
  | some (.always,x)=>(BG T st r).bind fun l=>bif mJ x then some (x::l.1,l.2)else none
  | _=>none
 | .cell a t::r=>match st.t a with
  | some (.always,x)=>(ldA T st.m t x).bind fun v=>(BG T st r).bind fun l=>bif mJ v.1 then some (v.1::l.1,fG (nOf st.m x) l.2)else none
  | _=>none
def resV:List AV→AV
 | [x]=>x
 | l => .tup l
def mkB:Nat→List Ob→List (Id×Ob)
 | _,[]=>[]
 | k,o::r=>(.b k,o)::mkB (k+1) r
theorem Eu:∀ (B:List Ob) (k j:Nat),kC (.b j) (mkB k B)=if k≤j then B[j - k]? else none
 | [],k,j=>by simp [mkB,kC]
 | o::r,k,j=>by
  simp only [mkB,kC];by_cases h:j=k
  ·subst h;simp [aN]
  ·rw [l7 (by simpa using h),cond_false,Eu r (k+1) j];by_cases h2:k≤j
   ·rw [if_pos (by omega),if_pos h2,show j - k=(j - (k+1))+1 by omega,List.getElem?_cons_succ]
   ·rw [if_neg (by omega),if_neg h2]
theorem Et:∀ (B:List Ob) (k a b:Nat),kC (.s a b) (mkB k B)=none
 | [],_,_,_=>rfl
 | o::r,k,a,b=>by
  simp only [mkB,kC];rw [l7 (by simp),cond_false,Et r]
theorem yD (B:List Ob):(fun id=>kC id (mkB 0 B))=ofB B:=by
 funext id;cases id with
 | b j=>rw [Eu];simp [ofB]
 | s a b=>rw [Et];rfl
def rvS (a:Act):ResultVar→Sem Value
 | .tmp t=>pure (a.tmps.getD t undef)
 | .cell b t=>do loadVar t (← asAddr (a.tmps.getD b undef))
theorem xY (hT:TOK P T N) {e:Entry} {I:Imm} {ρ:Pl} {a:Act} {w:World} (hs:dU T N e I ρ st a w):∀ (rs:List ResultVar) (l:List AV×Option Prop),BG T st rs=some l→aj l.2 →
 ∃ vs:List Value,(rs.mapM (rvS a)).run P w = .ok vs w∧vs.length=l.1.length ∧ ∀ (i:Nat) (x:AV) (v:Value),l.1[i]? = some x→vs[i]? = some v→mJ x=true∧dI T N I ρ x v
 | [],l,h,_=>by cases h;exact ⟨[],by simp,rfl,fun i x v hi=>by simp at hi⟩
 | .tmp t::r,l,h,hc=>by
  simp only [BG]at h;split at h
  ·rename_i x hx;simp only [Option.bind_eq_some_iff]at h;obtain ⟨l',h1,h2⟩:=h;obtain ⟨hb,h2⟩:=ak h2;cases h2;obtain ⟨vs,g1,g2,g3⟩:=xY hT hs r l' h1 hc;refine ⟨a.tmps.getD t undef::vs,?_,by simp [g2],fun i y v hi hv=>?_⟩
   ·rw [List.mapM_cons,Sem.run_bind,rvS,Sem.run_pure,Result.andThen_ok,Sem.run_bind,g1,Result.andThen_ok,Sem.run_pure]
   ·cases i with
    | zero =>
     simp at hi;subst hi;have hv':v=a.tmps.getD t undef:=by simpa using hv.symm
     subst hv';exact ⟨hb,((hs.tm t _ _ hx).1 trivial).rep1 (by rintro vs rfl;cases hb)⟩
    | succ i=>exact g3 i y v (by simpa using hi) (by simpa using hv)
  ·cases h
 | .cell b t::r,l,h,hc=>by
  simp only [BG]at h;split at h
  ·rename_i x hx;simp only [Option.bind_eq_some_iff]at h;obtain ⟨v,h0,l',h1,h2⟩:=h;obtain ⟨hb,h2⟩:=ak h2;cases h2;rw [aB]at hc;obtain ⟨vs,g1,g2,g3⟩:=xY hT hs r l' h1 hc.2;have hr:=((hs.tm b _ _ hx).1 trivial).rep1 (uV h0)
   obtain ⟨u,k1,k2⟩:=Aq (v:=v.1) (f:=v.2) hT hs.wr hr h0 hc.1;have haddr:∃ ad,a.tmps.getD b undef = .pointer (some ad):=by
    generalize a.tmps.getD b undef=y at k1;cases y with
    | pointer p =>
     cases p with
     | some ad=>exact ⟨ad,rfl⟩
     | none=>simp [Instr.loadAt,Instr.sureAddr,stuck]at k1
    | _=>simp [Instr.loadAt,Instr.sureAddr,stuck]at k1
   obtain ⟨ad,had⟩:=haddr;rw [had]at k1;simp only [Instr.loadAt,Instr.sureAddr,Sem.run_bind,Sem.run_pure,Result.andThen_ok]at k1;refine ⟨u::vs,?_,by simp [g2],fun i y v' hi hv=>?_⟩
   ·rw [List.mapM_cons,Sem.run_bind,rvS,had,Sem.run_bind,asAddr,Sem.run_pure,Result.andThen_ok,k1,Result.andThen_ok,Sem.run_bind,g1,Result.andThen_ok,Sem.run_pure]
   ·cases i with
    | zero =>
     simp at hi hv;subst hi hv;exact ⟨hb,k2.rep1 (fun vs e=>by rw [e]at hb;cases hb)⟩
    | succ i=>exact g3 i y v' (by simpa using hi) (by simpa using hv)
  ·cases h
theorem FD (fn:Func) (a:Act):results fn a.tmps=(do let vs ← fn.results.mapM (rvS a);pure (if h:vs.size=1 then vs[0]else .tuple vs)):=by
 unfold results;congr 1
theorem BR (hT:TOK P T N) {e:Entry} {I:Imm} {ρ:Pl} {a:Act} {w:World} (hs:dU T N e I ρ st a w) {fn:Func} {l:List AV×Option Prop} (h:BG T st fn.results.toList=some l) (hc:aj l.2) :
 ∃ v,(results fn a.tmps).run P w = .ok v w∧gI T N I ρ (resV l.1) v:=by
 obtain ⟨vs,h1,h2,h3⟩:=xY hT hs _ l h hc;have hm:(fn.results.mapM (rvS a)).run P w = .ok vs.toArray w:=by
  rw [← Array.toArray_toList (xs:=fn.results),List.mapM_toArray];rw [Sem.run_map,h1];rfl
 rw [FD];simp only [Sem.run_bind,hm,Result.andThen_ok,Sem.run_pure];refine ⟨_,rfl,?_⟩
 match hl:l.1,vs,h2,h3 with
 | [],[],_,_=>exact .tup _ rfl (fun i c hi=>by simp at hi)
 | [x],[v],_,h3=>exact .one (h3 0 x v rfl rfl).2
 | x::y::r,v::u::vs,h2,h3 =>
  have hsz:¬ ((v::u::vs).toArray.size=1):=by simp
  rw [dif_neg hsz];refine .tup _ (by simpa using h2) (fun i c hi=>?_);have hi':i<(v::u::vs).length:=by rw [h2];exact (List.getElem?_eq_some_iff.1 hi).1
  have:=(h3 i c _ hi (List.getElem?_eq_getElem hi')).2;have e:(v::u::vs).toArray.getD i undef=(v::u::vs)[i]:=by
   simp only [Array.getD_eq_getD_getElem?,List.getElem?_toArray,List.getElem?_eq_getElem hi',Option.getD_some]
  rw [e];exact this
 | [],v::vs,h2,_=>simp at h2
 | x::r,[],h2,_=>simp at h2
 | [x],v::u::vs,h2,_=>simp at h2
 | x::y::r,[v],h2,_=>simp at h2
def Fin (T:Nat→TI) (N nt nb:Nat) (rs:List ResultVar) (r:AV) (B':List Ob) (st:St):Prop :=
 ∃ ts,Ent T N nt nb st (aP ts (mkB 0 B')) ∧ ∃ l,BG T (aP ts (mkB 0 B')) rs=some l∧aj l.2∧r=resV l.1
def Sl (T:Nat→TI) (N nt nb:Nat) (rs:List ResultVar) (r:AV) (B':List Ob):Post:=fun ex st=>match ex with
 | .normal | .ret=>Fin T N nt nb rs r B' st
 | _=>False
def BM (args:List AV) (B:List Ob):St:=⟨fun k=>(args[k]?).map fun x=>(.always,x),ofB B⟩
theorem dU.shut {st:St} {e:Entry} {I:Imm} {ρ:Pl} {a:Act} {w:World} {D:Nat} {Ds:List Nat} (hs:dU T N e I ρ st a w) (ha:a.defers=(D::Ds).map wY) :
 w.heap[D]? = some (.deferred (some []))∧dU T N e I ρ st { a with defers:=Ds.map wY} (w.putObj D (.deferred none)):=by
 obtain ⟨Ds',h1,h2,h3⟩:=hs.df.1;have hinj:Ds'=D::Ds:=by
  rw [ha]at h2;exact ((List.map_inj_right (fun a b hab=>by simpa [wY]using hab)).1 h2).symm
 subst hinj;obtain ⟨hD,h3D⟩:=List.nodup_cons.1 h1;obtain ⟨k1,k2,k3⟩:=h3 D (by simp);have hoth:∀ b,b≠D→(w.putObj D (.deferred none)).heap[b]? = w.heap[b]? := fun b hb=>World.putObj_heap_other hb
 have hcell:∀ (b o:Nat) (y:Value),w.cell? ⟨b,o,none⟩=some y→(w.putObj D (.deferred none)).cell? ⟨b,o,none⟩=some y:=fun b o y h=>by
  have hb:b≠D:=by rintro rfl;simp [World.cell?,k1]at h
  simp only [World.cell?,hoth b hb];exact h
 refine ⟨k1,⟨⟨?_,?_,hs.wr.dom,hs.wr.inj,fun b o y h=>hcell b o y (hs.wr.imm b o y h),hs.wr.gl⟩,hs.tm,hs.nt,?_,?_,hs.eb⟩⟩
 ·intro id B hB;rcases hs.wr.cells id B hB with h | ⟨p,cs,d1,d2,d3,d4,d5,d⟩
  ·exact .inl h
  ·exact .inr ⟨p,cs,d1,d2,d3,d4,by rw [hoth _ (k3 id p d1)];exact d5,d⟩
 ·intro id es hB;obtain ⟨p,en,cl,d1,d2,d3,d⟩:=hs.wr.maps id es hB;exact ⟨p,en,cl,d1,d2,by rw [hoth _ (k3 id p d1)];exact d3,d⟩
 ·refine ⟨⟨Ds,h3D,rfl,fun D' hD'=>?_⟩,fun h=>by have:=hs.df.2 h;rw [ha]at this;cases this⟩;obtain ⟨j1,j2,j3⟩:=h3 D' (by simp [hD']);have hne:D'≠D:=by rintro rfl;exact hD hD'
  exact ⟨by rw [hoth _ hne];exact j1,j2,j3⟩
 ·refine ⟨hs.ev.imm,hs.ev.immN,hs.ev.pl,hs.ev.plN,fun b hb hne=>?_,by simpa using hs.ev.size,hs.ev.os,hs.ev.output,hs.ev.tape⟩;rw [hoth b (by omega)];exact hs.ev.frame b hb hne
theorem Ap {st:St} {e:Entry} {I:Imm} {ρ:Pl} {fn:Func} {R:Ending→World→Prop} {a:Act} {w:World} (hs:dU T N e I ρ st a w)
 (hR:∀ (a':Act) (w':World),a'.tmps=a.tmps→dU T N e I ρ st a' w' → ∃ v,(results fn a.tmps).run P w' = .ok v w'∧R (.returned v) w'):LeavesInM Fence.wide 0 P fn a.tmps R a.defers .returning w:=by
 obtain ⟨Ds,h1,h2,h3⟩:=hs.df.1;clear h1 h3;have main:∀ (Ds:List Nat) (a1:Act) (w1:World),a1.tmps=a.tmps→a1.defers=Ds.map wY→dU T N e I ρ st a1 w1→LeavesInM Fence.wide 0 P fn a.tmps R a1.defers .returning w1:=by
  intro Ds
  induction Ds with
  | nil =>
   intro a1 w1 e1 e2 hs1;rw [e2];exact hR a1 w1 e1 hs1
  | cons D Ds ih =>
   intro a1 w1 e1 e2 hs1;obtain ⟨k1,k2⟩:=hs1.shut e2;rw [e2];refine ⟨by simp,.inl ⟨D,_,rfl,run_takeDeferred k1,?_⟩⟩;exact ih { a1 with defers:=Ds.map wY} _ e1 rfl k2
 exact main Ds a w rfl h2 hs
theorem aA (hT:TOK P T N) {f:FuncId} {fn:Func} {c:Code} {args:List AV} {B:List Ob} {r:AV} {B':List Ob} (hf:P.funcs[f]? = some fn) (hn:(fn.name == "runtime.NumGoroutine")=false) (hb:fn.body=some c) (hnt:args.length≤fn.ntmps)
 (h:WP Rfn P T N fn.ntmps B.length c (Sl T N fn.ntmps B.length fn.results.toList r B') (BM args B)):AC P T N f args B r B':=by
 refine ⟨⟨fn,hf,hn,by rw [hb];rfl⟩,fun I ρ w vs hl hvs hw=>?_⟩;have heb:∀ id p,ρ id=some p → ∃ j,j<B.length∧id = .b j:=by
  intro id p hp;have:=hw.dom id p hp
  cases id with
  | s a b=>exact absurd rfl this
  | b j =>
   refine ⟨j,?_,rfl⟩;cases hj:B[j]? with
   | none=>simp [ofB,hj]at this
   | some o=>exact (List.getElem?_eq_some_iff.1 hj).1
 have hsz:vs.toArray.size≤fn.ntmps:=by simpa [hl]using hnt
 have hstart:dU T N ⟨I,ρ,w,fn.ntmps,B.length,false⟩ I ρ (BM args B) { tmps:=vs.toArray++Array.replicate (fn.ntmps - vs.toArray.size) undef,defers:=[] } w:=by
  refine ⟨hw,fun t d x ht=>?_,by simp [hl];omega,⟨Marks.nil,fun _=>rfl⟩,Ev.refl _ _ _,heb⟩;simp only [BM,Option.map_eq_some_iff,Prod.mk.injEq]at ht;obtain ⟨x0,h1,rfl,rfl⟩:=ht;have ht':t<vs.length:=by rw [hl];exact (List.getElem?_eq_some_iff.1 h1).1
  refine ⟨fun _=>?_,fun h=>absurd trivial h⟩;have hget:(vs.toArray++Array.replicate (fn.ntmps - vs.toArray.size) undef).getD t undef=vs[t]:=by
   simp [Array.getElem?_append,ht']
  simp only [hget];exact hvs t x0 _ h1 (List.getElem?_eq_getElem ht')
 refine (callsIn_wide (n:=0)).1 (callsIn_of_wp_marks hf hb trivial ?_);refine wpIn_mono (h ⟨I,ρ,w,fn.ntmps,B.length,false⟩ rfl rfl I ρ _ w hstart none ⟨rfl,rfl⟩ 0) ?_;rintro ex a' w' ⟨st',I',ρ',q,hs'⟩;have key:Fin T N fn.ntmps B.length fn.results.toList r B' st'→LeavesInM Fence.wide 0 P fn a'.tmps (fun e w' => ∃ v I' ρ',e = .returned v∧Ev I ρ w I' ρ' w'∧gI T N I' ρ' r v∧dR T N I' ρ' (ofB B') w') a'.defers .returning w':=by
  rintro ⟨ts,hent,l,h1,h2,rfl⟩;obtain ⟨I2,ρ2,hs2⟩:=hent _ rfl rfl I' ρ' a' w' hs';refine Ap hs2 (fun a3 w3 e3 hs3=>?_);obtain ⟨v,g1,g2⟩:=BR hT hs3 h1 h2;rw [e3]at g1;refine ⟨v,g1,v,I2,ρ2,rfl,hs3.ev,g2,?_⟩;have:=hs3.wr
  rw [show (aP ts (mkB 0 B')).m=ofB B' from yD B']at this;exact this
 cases ex with
 | normal=>exact key q
 | ret=>exact key q
 | _=>exact q.elim
end
def Nu {α:Type} (x:Value) (K:Value→α):α:=match x with
 | .int k n=>K (.int k n)
 | .bool b=>K (.bool b)
 | x=>K x
def pG {α:Type} (i:Id) (K:Id→α):α:=match i with
 | .b j=>K (.b j)
 | .s a b=>K (.s a b)
def EI {α:Type} (v:AV) (K:AV→α):α:=match v with
 | .v x=>Nu x fun x=>K (.v x)
 | .agg t n g=>K (.agg t n g)
 | .tup vs=>K (.tup vs)
 | .row e f n g=>K (.row e f n g)
 | .own id n i len cap=>pG id fun id=>K (.own id n i len cap)
 | .arr id n i p lo len hi=>pG id fun id=>K (.arr id n i p lo len hi)
 | .ptr id n i p=>pG id fun id=>K (.ptr id n i p)
 | .rp t x=>K (.rp t x)
 | .clo f cs=>K (.clo f cs)
 | .mp id=>pG id fun id=>K (.mp id)
def Je {α:Type} (c:Option Prop) (K:Option Prop→α):α:=match c with
 | none=>K none
 | some p=>K (some p)
def EJ {α:Type} (m:Id→Option Ob) (d:List (Id×Ob)) (K:(Id→Option Ob)→α):α:=match d with
 | []=>K m
 | [(i,o)]=>pG i fun i=>K (vV m i o)
 | l=>K (je m l)
def Jd {α:Type} (t:Nat→Option (D×AV)) (d:Option Nat) (G:D) (v:AV) (K:(Nat→Option (D×AV))→α):α:=match d with
 | some k=>K (Hz t k (some (G,v)))
 | none=>K t
theorem Jc {α:Type} (x:Value) (K:Value→α):Nu x K=K x:=by cases x <;> rfl
theorem xq {α:Type} (i:Id) (K:Id→α):pG i K=K i:=by cases i <;> rfl
theorem AL {α:Type} (v:AV) (K:AV→α):EI v K=K v:=by cases v <;> simp only [EI,Jc,xq]
theorem AQ {α:Type} (c:Option Prop) (K:Option Prop→α):Je c K=K c:=by cases c <;> rfl
theorem AP {α:Type} (m:Id→Option Ob) (d:List (Id×Ob)) (K:(Id→Option Ob)→α):EJ m d K=K (je m d):=by
 unfold EJ;split
 ·rfl
 ·rename_i i o;cases i <;> rfl
 ·rfl
theorem AO {α:Type} (t:Nat→Option (D×AV)) (d:Option Nat) (G:D) (v:AV) (K:(Nat→Option (D×AV))→α):Jd t d G v K=K (match d with | some k=>Hz t k (some (G,v)) | none=>t):=by cases d <;> rfl
section
variable {R:Option Nat→Bool→Prop} {P:Program} {T:Nat→TI} {N nt nb:Nat} {post:Post} {st:St}
def evF (T:Nat→TI) (AC:ACT) (nt:Nat) (ops:List Oper):List Oper→(Nat→Option (D×AV))→(Id→Option Ob)→List CG→Option Prop→Option RS
 | [],t,m,gs,c=>some ⟨⟨t,m⟩,gs,c⟩
 | o::r,t,m,gs,c=>match jM ops ⟨t,m⟩ o with
  | none=>none
  | some G=>match evO T AC ⟨t,m⟩ G gs o with
   | none=>none
   | some (⟨v,d,f,c'⟩,gs')=>bif yS nt o.dst then EI v fun v=>Je (fG c c') fun c=>EJ m d fun m=>Jd t o.dst G v fun t=>evF T AC nt ops r t m gs' c else none
theorem ER {AC:ACT} {ops:List Oper}:∀ (l:List Oper) (t:Nat→Option (D×AV)) (m:Id→Option Ob) (gs:List CG) (c:Option Prop),evF T AC nt ops l t m gs c=evL T AC nt ops l ⟨⟨t,m⟩,gs,c⟩
 | [],_,_,_,_=>rfl
 | o::r,t,m,gs,c=>by
  simp only [evF,evL];cases jM ops ⟨t,m⟩ o with
  | none=>rfl
  | some G =>
   simp only [Option.bind_some];cases evO T AC ⟨t,m⟩ G gs o with
   | none=>rfl
   | some x =>
    obtain ⟨⟨v,d,f,c'⟩,gs'⟩:=x;simp only [Option.bind_some,AL,AQ,AP,AO];rw [ER r];congr 2
    ·simp only [RS.mk.injEq,and_true];cases o.dst <;> rfl
theorem WP.reg (hT:TOK P T N) (hE:xH P T N) {id:Nat} {ops:Array Oper} {t t':Nat→Option (D×AV)} {m m':Id→Option Ob} {gs':List CG} {c:Option Prop} (gs:List CG) (h:evF T (AC P T N) nt ops.toList ops.toList t m gs none=some ⟨⟨t',m'⟩,gs',c⟩) (hc:aj c) (hp:post .normal ⟨t',m'⟩):WP R P T N nt nb (.region id ops false) post ⟨t,m⟩:=by
 rw [ER]at h;exact WP.region hT hE gs h hc hp
end
structure Lt where
 dst:Option Nat
 rd:List Nat
 w:List Id
 f:List Id
def Ot (x y:Lt):Bool:=vN x.dst y.rd&&vN y.dst x.rd&&Dk x.dst y.dst && !pz x.w (y.f++y.w) && !pz y.w x.f
def direct (i:Nat) (o:Oper):Bool:=o.after.toList.any fun e=>Region.binds .any e&&Nat.beq e.on i
theorem Bl {ops:List Oper} {i f:Nat} {o:Oper} (h:direct i o=true):reach ops i (f+1) o=true:=by
 simp only [reach,Bool.or_eq_true];exact .inl h
def KT (ops:List Oper) (o:Oper) (y:Lt):List Lt→Nat→Bool
 | [],_=>true
 | x::r,i=>((((!x.w.isEmpty) || !y.w.isEmpty)&&direct i o)||Ot x y||reach ops i 12 o)&&KT ops o y r (i+1)
def qy {α:Type}:List Id→(List Id→α)→α
 | [],K=>K []
 | i::r,K=>pG i fun i=>qy r fun r=>K (i::r)
theorem vg {α:Type}:∀ (l:List Id) (K:List Id→α),qy l K=K l
 | [],_=>rfl
 | i::r,K=>by simp only [qy,xq,vg r]
def Kt {α β:Type}:List α→α→(List α→β)→β
 | [],x,K=>K [x]
 | y::r,x,K=>Kt r x fun r=>K (y::r)
theorem DT {α β:Type}:∀ (l:List α) (x:α) (K:List α→β),Kt l x K=K (l++[x])
 | [],_,_=>rfl
 | y::r,x,K=>by rw [Kt,DT r];rfl
def ltOf (ops:List Oper) (x:Rec):Lt:=⟨x.o.dst,reads ops x.o,wr x.r,x.r.f⟩
section
variable {R:Option Nat→Bool→Prop} {P:Program} {T:Nat→TI} {N nt nb:Nat} {post:Post} {st:St}
def O0 (T:Nat→TI) (AC:ACT) (nt:Nat) (ops:List Oper):List Oper→List Lt→(Nat→Option (D×AV))→(Id→Option Ob)→List CG→Option Prop→Option RS
 | [],_,t,m,gs,c=>some ⟨⟨t,m⟩,gs,c⟩
 | o::r,done,t,m,gs,c=>match jM ops ⟨t,m⟩ o with
  | none=>none
  | some G=>match evO T AC ⟨t,m⟩ G gs o with
   | none=>none
   | some (⟨v,d,f,c'⟩,gs')=>qy (d.map (·.1)) fun w=>qy f fun f =>
    bif yS nt o.dst&&forward done.length o&&KT ops o ⟨o.dst,reads ops o,w,f⟩ done 0 then
     EI v fun v=>Je (fG c c') fun c=>EJ m d fun m=>Jd t o.dst G v fun t=>Kt done ⟨o.dst,reads ops o,w,f⟩ fun done=>O0 T AC nt ops r done t m gs' c else none
theorem Ej {ops:List Oper} {y:Rec}:∀ (l:List Rec) (i:Nat),KT ops y.o (ltOf ops y) (l.map (ltOf ops)) i=lu ops y l i
 | [],_=>rfl
 | x::r,i=>by
  simp only [List.map_cons,KT,lu,Ej r];congr 1;cases hd:direct i y.o with
  | false=>rw [Bool.and_false,Bool.false_or];rfl
  | true=>rw [Bl hd,Bool.or_true,Bool.or_true]
theorem Bf {AC:ACT} {ops:List Oper} {s':RS}:∀ (l:List Oper) (done:List Rec) (t:Nat→Option (D×AV)) (m:Id→Option Ob) (gs:List CG) (c:Option Prop),O0 T AC nt ops l (done.map (ltOf ops)) t m gs c=some s' →
 ∃ recs,evT T AC nt ops l ⟨⟨t,m⟩,gs,c⟩=some (recs,s')∧zX ops done recs=true
 | [],done,t,m,gs,c,h=>by
  simp only [O0,Option.some.injEq]at h;subst h;exact ⟨[],rfl,rfl⟩
 | o::r,done,t,m,gs,c,h=>by
  simp only [O0]at h;cases hG:jM ops ⟨t,m⟩ o with
  | none=>rw [hG]at h;cases h
  | some G =>
   rw [hG]at h;simp only at h;cases hx:evO T AC ⟨t,m⟩ G gs o with
   | none=>rw [hx]at h;cases h
   | some x =>
    obtain ⟨⟨v,d,f,c'⟩,gs'⟩:=x;rw [hx]at h;simp only [vg,AL,AQ,AP,AO,DT]at h;obtain ⟨hb,h⟩:=ak h;simp only [Bool.and_eq_true]at hb;have hy:(⟨o.dst,reads ops o,d.map (·.1),f⟩:Lt)=ltOf ops ⟨o,G,gs,⟨v,d,f,c'⟩⟩:=rfl
    rw [hy]at h hb;rw [← List.map_singleton,← List.map_append]at h;obtain ⟨recs,h1,h2⟩:=Bf r _ _ _ _ _ h;refine ⟨⟨o,G,gs,⟨v,d,f,c'⟩⟩::recs,?_,?_⟩
    ·simp only [evT,hG,Option.bind_some,hx,hb.1.1,cond_true];have e:(St.after ⟨t,m⟩ o G ⟨v,d,f,c'⟩)=⟨match o.dst with | some k=>Hz t k (some (G,v)) | none=>t,je m d⟩:=by
      unfold St.after St.put;cases o.dst <;> rfl
     have h1':evT T AC nt ops r ⟨St.after ⟨t,m⟩ o G ⟨v,d,f,c'⟩,gs',fG c c'⟩=some (recs,s'):=by rw [e];exact h1
     rw [h1'];rfl
    ·simp only [zX,Bool.and_eq_true];refine ⟨⟨?_,?_⟩,h2⟩
     ·have:=hb.1.2
      rwa [List.length_map]at this
     ·rw [← Ej];exact hb.2
theorem WP.drw (hT:TOK P T N) (hE:xH P T N) (hmix:P.follows .mixedOrders=true) {id:Nat} {ops:Array Oper} {t t':Nat→Option (D×AV)} {m m':Id→Option Ob} {gs':List CG} {c:Option Prop} (gs:List CG) (h:O0 T (AC P T N) nt ops.toList ops.toList [] t m gs none=some ⟨⟨t',m'⟩,gs',c⟩) (hc:aj c) (hp:post .normal ⟨t',m'⟩):WP R P T N nt nb (.region id ops true) post ⟨t,m⟩:=by
 obtain ⟨recs,h1,h2⟩:=Bf (ops.toList) [] t m gs none h;refine WP.draws hT hE hmix gs (s':=⟨⟨t',m'⟩,gs',c⟩) ?_ hc hp;simp only [evA,h1,Option.bind_some,h2,cond_true]
end
def dH (az:Nat→Bool):Nat→Nat→Bool
 | _,0=>true
 | k,n+1=>az k&&dH az (k+1) n
theorem sG (az:Nat→Bool):∀ (n k:Nat),dH az k (n+1)=(dH az k n&&az (k+n))
 | 0,k=>by simp [dH]
 | n+1,k=>by
  rw [dH,sG az n (k+1),dH,Bool.and_assoc];congr 3;omega
theorem oq (az:Nat→Bool):∀ (n k:Nat),dH az k n=true → ∀ i,i<n→az (k+i)=true
 | 0,_,_,i,hi=>by omega
 | n+1,k,h,i,hi=>by
  simp only [dH,Bool.and_eq_true]at h;cases i with
  | zero=>exact h.1
  | succ i =>
   have:=oq az n (k+1) h.2 i (by omega)
   rwa [show k+(i+1)=k+1+i by omega]
def SB (cs ds:List Value):Prop:=cs.length=ds.length ∧ ∀ (n k:Nat) (a b:Value),cs[k]? = some a→ds[k]? = some b→Instr.sameBits n b a=true
theorem SB.append {a b c d:List Value} (h:SB a b) (k:SB c d):SB (a++c) (b++d):=by
 refine ⟨by simp [h.1,k.1],fun n i x y hx hy=>?_⟩;rcases Nat.lt_or_ge i a.length with hi | hi
 ·rw [List.getElem?_append_left hi]at hx;rw [List.getElem?_append_left (by rw [← h.1];exact hi)]at hy;exact h.2 n i x y hx hy
 ·rw [List.getElem?_append_right hi]at hx;rw [List.getElem?_append_right (by rw [← h.1];exact hi),← h.1]at hy;exact k.2 n _ x y hx hy
theorem SB.flat {f g:Nat→List Value}:∀ (n:Nat),(∀ i,i<n→SB (f i) (g i))→SB ((List.range n).flatMap f) ((List.range n).flatMap g)
 | 0,_=>⟨rfl,fun _ _ _ _ h=>by simp at h⟩
 | n+1,h=>by
  simp only [List.range_succ,List.flatMap_append,List.flatMap_cons,List.flatMap_nil,List.append_nil];exact (SB.flat n (fun i hi=>h i (by omega))).append (h n (by omega))
theorem SB.bits {cs ds:List Value} (h:SB cs ds) (n:Nat):Instr.sameBits (n+1) (.agg ds.toArray) (.agg cs.toArray)=true:=by
 simp only [Instr.sameBits,List.size_toArray,Bool.and_eq_true,beq_iff_eq,List.all_eq_true];refine ⟨h.1.symm,?_⟩;rintro ⟨x,y⟩ hm;obtain ⟨i,hi⟩:=List.getElem?_of_mem hm;rw [List.getElem?_zip_eq_some]at hi;exact h.2 n i y x hi.2 hi.1
section
variable {P:Program} {T:Nat→TI} {N:Nat}
theorem rW {g h:Nat→AV} (f:Nat):∀ (fs:List Nat) (i:Nat) (b:Bool),vC (iH T f) fs i g h=some b → ∃ az:Nat→Bool,(∀ (k u:Nat),fs[k]? = some u → ∃ f',f'<f+1∧iH T f' u (g (i+k)) (h (i+k))=some (az (i+k)))∧b=dH az i fs.length
 | [],i,b,e=>by
  simp [vC]at e;exact ⟨fun _=>true,fun k u hk=>by simp at hk,by simp [dH,e]⟩
 | t::r,i,b,e=>by
  simp only [vC,Option.bind_eq_some_iff,Option.some.injEq]at e;obtain ⟨a,h1,b',h2,rfl⟩:=e;obtain ⟨az,g1,g2⟩:=rW f r (i+1) b' h2;refine ⟨fun k=>if k=i then a else az k,fun k u hk=>?_,?_⟩
  ·cases k with
   | zero=>simp at hk;subst hk;exact ⟨f,by omega,by simpa using h1⟩
   | succ k =>
    obtain ⟨f',k1,k2⟩:=g1 k u (by simpa using hk);refine ⟨f',by omega,?_⟩;rw [show i+(k+1)=i+1+k by omega];simp only [show ¬ (i+1+k=i) by omega,if_false];exact k2
  ·simp only [List.length_cons,dH,if_true];congr 1;rw [g2];have:∀ (n k:Nat),i<k→dH az k n=dH (fun k=>if k=i then a else az k) k n:=by
    intro n
    induction n with
    | zero=>intro k _;rfl
    | succ n ih =>
     intro k hk;simp only [dH];rw [if_neg (by omega),ih (k+1) (by omega)]
   exact this _ _ (by omega)
theorem rX {g h:Nat→AV} {e:Nat} (f:Nat):∀ (n:Nat) (b:Bool),vF (iH T f e) n g h=some b → ∃ az:Nat→Bool,(∀ k,k<n → ∃ f',f'<f+1∧iH T f' e (g k) (h k)=some (az k))∧b=dH az 0 n
 | 0,b,e=>by
  simp [vF]at e;exact ⟨fun _=>true,fun k hk=>by omega,by simp [dH,e]⟩
 | n+1,b,e=>by
  simp only [vF,Option.bind_eq_some_iff,Option.some.injEq]at e;obtain ⟨b',h1,a,h2,rfl⟩:=e;obtain ⟨az,g1,g2⟩:=rX f n b' h1;refine ⟨fun k=>if k=n then a else az k,fun k hk=>?_,?_⟩
  ·by_cases hkn:k=n
   ·subst hkn;exact ⟨f,by omega,by simpa using h2⟩
   ·obtain ⟨f',k1,k2⟩:=g1 k (by omega);exact ⟨f',by omega,by simp only [hkn,if_false];exact k2⟩
  ·rw [sG,Nat.zero_add,if_pos rfl];congr 1;rw [g2];have:∀ (m k:Nat),k+m≤n→dH az k m=dH (fun k=>if k=n then a else az k) k m:=by
    intro m
    induction m with
    | zero=>intro k _;rfl
    | succ m ih =>
     intro k hk;simp only [dH];rw [if_neg (by omega),ih (k+1) (by omega)]
   exact this _ _ (by omega)
def y7 (P:Program) (T:Nat→TI):Prop := ∀ t,(T t).eqs=true→P.stoodInHeld t=false
theorem wO {d:Nat} {xs ys:Array Value} {w:World} {az:Nat→Bool}:∀ (L:List Field) (k:Nat),(∀ (j:Nat) (fl:Field),L[j]? = some fl→fl.name ≠ "_" ∧ ∃ a b,(part fl.type xs fl.offset).run P w = .ok a w∧(part fl.type ys fl.offset).run P w = .ok b w ∧
 (Op.equalIn d fl.type a b).run P w = .ok (az (k+j)) w)→(Op.eqFields d xs ys L).run P w = .ok (dH az k L.length) w
 | [],k,_=>by simp [Op.eqFields,dH]
 | fl::L,k,h=>by
  obtain ⟨h1,a,b,h2,h3,h4⟩:=h 0 fl rfl;simp only [Op.eqFields,h1,ne_eq,not_false_eq_true,if_true,Sem.run_bind,h2,h3,h4,Result.andThen_ok,Nat.add_zero,List.length_cons,dH];cases has:az k with
  | false=>simp
  | true =>
   simp only [Bool.not_true,Bool.false_eq_true,if_false,Bool.true_and];exact wO L (k+1) (fun j fl' hj=>by
    have:=h (j+1) fl' (by simpa using hj)
    rwa [show k+(j+1)=k+1+j by omega]at this)
theorem zL {d e sz:Nat} {xs ys:Array Value} {w:World} {az:Nat→Bool}:∀ (n k:Nat),(∀ j,k≤j→j<k+n → ∃ a b,(part e xs (j*sz)).run P w = .ok a w∧(part e ys (j*sz)).run P w = .ok b w∧(Op.equalIn d e a b).run P w = .ok (az j) w) →
 (Op.eqItems d e sz xs ys (List.range' k n)).run P w = .ok (dH az k n) w
 | 0,k,_=>by simp [Op.eqItems,dH]
 | n+1,k,h=>by
  obtain ⟨a,b,h2,h3,h4⟩:=h k (Nat.le_refl _) (by omega);simp only [List.range'_succ,Op.eqItems,Sem.run_bind,h2,h3,h4,Result.andThen_ok,dH];cases has:az k with
  | false=>simp
  | true =>
   simp only [Bool.not_true,Bool.false_eq_true,if_false,Bool.true_and];exact zL n (k+1) (fun j h1 h2=>h j (by omega) (by omega))
theorem FC {d e sz:Nat} {xs ys:Array Value} {w:World} {az:Nat→Bool} (n:Nat) (h:∀ j,j<n → ∃ a b,(part e xs (j*sz)).run P w = .ok a w∧(part e ys (j*sz)).run P w = .ok b w∧(Op.equalIn d e a b).run P w = .ok (az j) w) :
 (Op.eqItems d e sz xs ys (List.range n)).run P w = .ok (dH az 0 n) w:=by
 rw [List.range_eq_range'];exact zL n 0 (fun j _ hj=>h j (by omega))
theorem tN {fs:List Nat} {segs:Nat→List Value} {n:Nat} (hn:fs.length=n) (hl:∀ i u,fs[i]? = some u→(segs i).length=(T u).size) {k u:Nat} (hk:fs[k]? = some u) {o:Nat} (ho:o<(T u).size):((List.range n).flatMap segs)[lK T fs k+o]? = (segs k)[o]? := by
 have hkn:k<n:=by rw [← hn];exact (List.getElem?_eq_some_iff.1 hk).1
 have e1:lK T fs k=jq (fun i=>(segs i).length) k:=dh fun i hi=>by
  have hi':i<fs.length:=by omega
  simp only [List.getElem?_eq_getElem hi',Option.map_some,Option.getD_some];exact (hl i _ (List.getElem?_eq_getElem hi')).symm
 rw [e1];exact ou segs hkn (by rw [hl k u hk];exact ho)
theorem O1 (hT:TOK P T N) (hS:y7 P T):∀ (f t:Nat) (x y:AV) (cs ds:List Value) (b:Bool) (d:Nat) (w:World) (I:Imm) (ρ:Pl),f≤d→Rep T N I ρ x cs→Rep T N I ρ y ds→iH T f t x y=some b →
 (Op.equalIn d t (bZ x cs) (bZ y ds)).run P w = .ok b w∧(Op.eqGuardIn d t (bZ x cs) (bZ y ds)).run P w = .ok false w∧(b=true→SB cs ds):=by
 intro f
 induction f using Nat.strongRecOn with
 | _ f ih =>
  intro t x y cs ds b d w I ρ hd hx hy h;cases f with
  | zero=>simp [iH]at h
  | succ f =>
   obtain ⟨d,rfl⟩:∃ d',d=d'+1:=⟨d - 1,by omega⟩;unfold iH at h;split at h
   ·rename_i k j a k' c hk;obtain ⟨hb,h⟩:=ak h;cases h;have hjk:j=k':=of_decide_eq_true hb
    subst hjk;cases hx;cases hy;have hu:=kind_int hT hk w
    refine ⟨by simp [bZ,Op.equalIn,hu],by simp [bZ,Op.eqGuardIn,hu],fun e=>⟨rfl,fun n i u v hu hv=>?_⟩⟩;cases i with
    | zero =>
     simp at hu hv;subst hu hv;have:a=c:=by simpa using e
     subst this;cases n <;> simp [Instr.sameBits]
    | succ i=>simp at hu
   ·rename_i a c hk;cases h;cases hx;cases hy;obtain ⟨dd,hd1,_,hd3⟩:=hT.runUnd (hT.lt (t:=t) (by rw [hk];simp));rw [hk]at hd3;cases dd <;> simp only [kindOf,reduceCtorEq]at hd3
    have hu:=hd1 w;refine ⟨by simp [bZ,Op.equalIn,hu],by simp [bZ,Op.eqGuardIn,hu],fun e=>⟨rfl,fun n i u v hu hv=>?_⟩⟩;cases i with
    | zero =>
     simp at hu hv;subst hu hv;have:a=c:=by simpa using e
     subst this;cases n <;> simp [Instr.sameBits]
    | succ i=>simp at hu
   ·rename_i a c hk;cases h;cases hx;cases hy;have hu:=sV hT hk w
    refine ⟨by simp [bZ,Op.equalIn,hu],by simp [bZ,Op.eqGuardIn,hu],fun e=>⟨rfl,fun n i u v hu hv=>?_⟩⟩;cases i with
    | zero =>
     simp at hu hv;subst hu hv;have e1:(c==a)=true:=by
      rw [beq_toListBytes]at e ⊢;simp at e ⊢;exact e.symm
     cases n <;> simp [Instr.sameBits,e1]
    | succ i=>simp at hu
   ·rename_i fs t1 n1 g t2 n2 g' hk;have hb:=(ak h).1
    replace h:=(ak h).2;simp only [Bool.and_eq_true]at hb;obtain ⟨⟨b1,b2⟩,b3⟩:=hb;have e1:=Nat.eq_of_beq_eq_true b1
    have e2:=Nat.eq_of_beq_eq_true b2;subst e1 e2;obtain ⟨az,s1,s2⟩:=rW f fs 0 b h;cases hx with
    | array e segs hk'=>rw [hk]at hk';cases hk'
    | struct fs1 segs hk1 hn1 ht1 hr1 hf1 hl1 =>
    cases hy with
    | array e segs hk'=>rw [hk]at hk';cases hk'
    | struct fs2 segs2 hk2 hn2 ht2 hr2 hf2 hl2 =>
    rw [hk]at hk1;cases hk1;rw [hk]at hk2;cases hk2;obtain ⟨dd,hd1,hd2,hd3⟩:=hT.und _ ht1;rw [hk]at hd2;cases dd <;> simp only [kindOf,reduceCtorEq,TK.struct.injEq]at hd2
    rename_i flds;have hfo:P.fieldsOf t2=flds:=by simp [Program.fieldsOf,hd1]
    have each:∀ (j:Nat) (fl:Field),flds.toList[j]? = some fl→fl.name ≠ "_" ∧ ∃ a c,(part fl.type ((List.range n1).flatMap segs).toArray fl.offset).run P w = .ok a w∧(part fl.type ((List.range n2).flatMap segs2).toArray fl.offset).run P w = .ok c w ∧
     (Op.equalIn d fl.type a c).run P w = .ok (az (0+j)) w∧(Op.eqGuardIn d fl.type a c).run P w = .ok false w∧(az (0+j)=true→SB (segs j) (segs2 j)):=by
     intro j fl hj;have hj':flds[j]? = some fl:=by rw [← hj,Array.getElem?_toList]
     have hu:fs[j]? = some fl.type:=by rw [← hd2];simp [hj']
     obtain ⟨o1,o2⟩:=hd3 flds rfl j fl hj';rw [hd2]at o1;have hltN:=(hT.struct t2 fs hk).1 _ (List.mem_of_getElem? hu)
     obtain ⟨f',k1,k2⟩:=s1 j fl.type hu;have r1:=fO hT hltN (hr1 j _ hu) (hf1 j _ hu) (hl1 j _ hu) (cs:=((List.range n1).flatMap segs).toArray) (off:=fl.offset) (w:=w) (fun o ho=>by
      have:=tN hn1 hl1 hu ho;rw [o1];simpa using this)
     have r2:=fO hT hltN (hr2 j _ hu) (hf2 j _ hu) (hl2 j _ hu) (cs:=((List.range n2).flatMap segs2).toArray) (off:=fl.offset) (w:=w) (fun o ho=>by
      have:=tN hn2 hl2 hu ho;rw [o1];simpa using this)
     rw [Nat.zero_add]at k2 ⊢;obtain ⟨m1,m2,m3⟩:=ih f' (by omega) fl.type _ _ _ _ _ d w I ρ (by omega) (hr1 j _ hu) (hr2 j _ hu) k2;exact ⟨o2,_,_,r1,r2,m1,m2,m3⟩
    refine ⟨?_,?_,fun e=>?_⟩
    ·simp only [bZ];rw [run_equalIn_struct w d t2 _ _ (by rw [hfo];exact hd1) (hS t2 b3),hfo];have:=wO (az:=az) flds.toList 0 (fun j fl hj=>by
      obtain ⟨z1,a,c,z2,z3,z4,_⟩:=each j fl hj;exact ⟨z1,a,c,z2,z3,z4⟩)
     rw [this,s2];have:flds.toList.length=fs.length:=by rw [← hd2];simp
     rw [this]
    ·simp only [bZ,Op.eqGuardIn,Sem.run_bind,run_underlying hd1,Result.andThen_ok];rw [← Array.forIn_toList];have each':∀ fl∈flds.toList,fl.name ≠ "_" ∧ ∃ a c,(part fl.type ((List.range n1).flatMap segs).toArray fl.offset).run P w = .ok a w∧(part fl.type ((List.range n2).flatMap segs2).toArray fl.offset).run P w = .ok c w∧(Op.eqGuardIn d fl.type a c).run P w = .ok false w:=fun fl hm=>by
      obtain ⟨j,hj⟩:=List.getElem?_of_mem hm;obtain ⟨z1,a,c,z2,z3,_,z5,_⟩:=each j fl hj;exact ⟨z1,a,c,z2,z3,z5⟩
     generalize flds.toList=L at each'
     induction L with
     | nil=>simp
     | cons j L ihL =>
      obtain ⟨z1,a,c,z2,z3,z5⟩:=each' j (by simp);simp only [List.forIn_cons,Sem.run_bind,z1,ne_eq,not_false_eq_true,if_true,z2,z3,z5,Result.andThen_ok,Bool.false_eq_true,if_false,Sem.run_pure];exact ihL (fun y hy=>each' y (by simp [hy]))
    ·rw [← hn1,← hn2];refine SB.flat _ (fun i hi=>?_);have hi':i<flds.toList.length:=by
      have:flds.toList.length=fs.length:=by rw [← hd2];simp
      omega
     obtain ⟨_,_,_,_,_,_,_,z6⟩:=each i _ (List.getElem?_eq_getElem hi');refine z6 ?_;rw [s2]at e;exact oq az _ 0 e i hi
   ·rename_i k e t1 n1 g t2 n2 g' hk;have hb:=(ak h).1
    replace h:=(ak h).2;simp only [Bool.and_eq_true]at hb;obtain ⟨b1,b2⟩:=hb;have e1:=Nat.eq_of_beq_eq_true b1
    have e2:=Nat.eq_of_beq_eq_true b2;subst e1 e2;obtain ⟨az,s1,s2⟩:=rX f k b h;cases hx with
    | struct fs1 segs hk'=>rw [hk]at hk';cases hk'
    | array e1 segs hk1 ht1 hr1 hf1 hl1 =>
    cases hy with
    | struct fs1 segs hk'=>rw [hk]at hk';cases hk'
    | array e2 segs2 hk2 ht2 hr2 hf2 hl2 =>
    rw [hk]at hk1;cases hk1;rw [hk]at hk2;cases hk2;have he:=(hT.array t2 _ e hk).1
    obtain ⟨i,hi,his,_⟩:=hT.info e he;have each:∀ j,j<k → ∃ a c,(part e ((List.range k).flatMap segs).toArray (j*(T e).size)).run P w = .ok a w∧(part e ((List.range k).flatMap segs2).toArray (j*(T e).size)).run P w = .ok c w ∧
     (Op.equalIn d e a c).run P w = .ok (az j) w∧(Op.eqGuardIn d e a c).run P w = .ok false w∧(az j=true→SB (segs j) (segs2 j)):=by
     intro j hj;obtain ⟨f',k1,k2⟩:=s1 j hj;have r1:=fO hT he (hr1 j hj) (hf1 j hj) (hl1 j hj) (cs:=((List.range k).flatMap segs).toArray) (off:=j*(T e).size) (w:=w) (fun o ho=>by
      have:=dW segs hl1 hj ho;simpa using this)
     have r2:=fO hT he (hr2 j hj) (hf2 j hj) (hl2 j hj) (cs:=((List.range k).flatMap segs2).toArray) (off:=j*(T e).size) (w:=w) (fun o ho=>by
      have:=dW segs2 hl2 hj ho;simpa using this)
     obtain ⟨m1,m2,m3⟩:=ih f' (by omega) e _ _ _ _ _ d w I ρ (by omega) (hr1 j hj) (hr2 j hj) k2;exact ⟨_,_,r1,r2,m1,m2,m3⟩
    refine ⟨?_,?_,fun e'=>?_⟩
    ·simp only [bZ];rw [run_equalIn_array w d _ _ (show P.underlying t2=some (.array k e)from by
      obtain ⟨dd,_,q2,q3⟩:=hT.runUnd ht1;rw [hk]at q3;cases dd <;> simp only [kindOf,reduceCtorEq,TK.array.injEq]at q3
      obtain ⟨rfl,rfl⟩:=q3;exact q2) hi,show P.cellsOf e=(T e).size from by simp [Program.cellsOf,hi,his]]
     rw [FC (az:=az) k (fun j hj=>by
      obtain ⟨a,c,z2,z3,z4,_⟩:=each j hj;exact ⟨a,c,z2,z3,z4⟩),s2]
    ·simp only [bZ,Op.eqGuardIn,Sem.run_bind,hT.arr hk,Result.andThen_ok,hT.runSize he];simp only [Std.Legacy.Range.forIn_eq_forIn_range',Std.Legacy.Range.size,Nat.sub_zero,Nat.add_one_sub_one,Nat.div_one];have each':∀ j∈List.range' 0 k,∃ a c,(part e ((List.range k).flatMap segs).toArray (j*(T e).size)).run P w = .ok a w∧(part e ((List.range k).flatMap segs2).toArray (j*(T e).size)).run P w = .ok c w∧(Op.eqGuardIn d e a c).run P w = .ok false w:=fun j hj=>by
      obtain ⟨a,c,z2,z3,_,z5,_⟩:=each j (by simpa using hj);exact ⟨a,c,z2,z3,z5⟩
     generalize List.range' 0 k=L at each'
     induction L with
     | nil=>simp
     | cons j L ihL =>
      obtain ⟨a,c,z2,z3,z5⟩:=each' j (by simp);simp only [List.forIn_cons,Sem.run_bind,z2,z3,z5,Result.andThen_ok,Bool.false_eq_true,if_false,Sem.run_pure];exact ihL (fun y hy=>each' y (by simp [hy]))
    ·refine SB.flat _ (fun i hi=>?_);obtain ⟨_,_,_,_,_,_,z6⟩:=each i hi;refine z6 ?_;rw [s2]at e';have:=oq az _ 0 e' i hi
     rwa [Nat.zero_add]at this
   ·cases h
theorem Sm (hT:TOK P T N) (hS:y7 P T):xH P T N:=by
 rintro I ρ f t x y u v b w ⟨cs,hx,rfl⟩ ⟨ds,hy,rfl⟩ ha h hf;obtain ⟨h1,h2,h3⟩:=O1 hT hS f t x y cs ds b 10000 w I ρ (by omega) hx hy h;have hagg:(∃ t1 n1 g1,x = .agg t1 n1 g1) ∧ ∃ t2 n2 g2,y = .agg t2 n2 g2:=by
  cases f with
  | zero=>simp [iH]at h
  | succ f =>
   unfold iH at h;split at h
   ·rename_i hk;rw [hk]at ha;cases ha
   ·rename_i hk;rw [hk]at ha;cases ha
   ·rename_i hk;rw [hk]at ha;cases ha
   ·exact ⟨⟨_,_,_,rfl⟩,_,_,_,rfl⟩
   ·exact ⟨⟨_,_,_,rfl⟩,_,_,_,rfl⟩
   ·cases h
 obtain ⟨⟨t1,n1,g1,rfl⟩,t2,n2,g2,rfl⟩:=hagg;refine ⟨h1,fun op p q=>?_,fun e=>?_⟩
 ·simp only [bZ]at h2 ⊢;unfold eqGuard;have h2':(Op.eqGuardIn Op.maxDepth t (.agg cs.toArray) (.agg ds.toArray)).run P w = .ok false w:=h2
  cases op <;> simp [h2'] <;> split <;> simp
 ·simp only [bZ];exact SB.bits (h3 e) 9999
end
inductive Tr where
 | e
 | n (k:Nat) (x:TI) (l r:Tr)
def dfl:TI:=⟨.other,0,0,true,false,.bad,[]⟩
def Tr.get:Tr→Nat→TI
 | .e,_=>dfl
 | .n k x l r,t=>bif Nat.beq t k then x else bif Nat.blt t k then l.get t else r.get t
def Tr.under:Tr→Nat→Bool
 | .e,_=>true
 | .n k _ l r,N=>Nat.blt k N&&l.under N&&r.under N
theorem Tr.out:∀ (x:Tr) {N t:Nat},x.under N=true→N≤t→x.get t=dfl
 | .e,_,_,_,_=>rfl
 | .n k y l r,N,t,h,ht=>by
  simp only [Tr.under,Bool.and_eq_true]at h;have hk:=iw h.1.1
  have h1:t≠k:=by omega
  have h2:Nat.blt t k=false:=by
   cases hb:Nat.blt t k with
   | false=>rfl
   | true=>have:=iw hb;omega
  simp only [Tr.get,gQ h1,h2,cond_false];exact r.out h.2 ht
def Ep:List Nat→List Nat→Bool
 | [],[]=>true
 | a::r,b::s=>Nat.beq a b&&Ep r s
 | _,_=>false
theorem Af:∀ {a b:List Nat},Ep a b=true→a=b
 | [],[],_=>rfl
 | a::r,b::s,h=>by
  simp only [Ep,Bool.and_eq_true]at h;rw [Nat.eq_of_beq_eq_true h.1,Af h.2]
 | [],_::_,h=>by cases h
 | _::_,[],h=>by cases h
def Q8:TK→TK→Bool
 | .int j,.int k=>decide (j=k)
 | .bool,.bool=>true
 | .str,.str=>true
 | .other,.other=>true
 | .slice a,.slice b=>Nat.beq a b
 | .struct a,.struct b=>Ep a b
 | .array n a,.array m b=>Nat.beq n m&&Nat.beq a b
 | .ptr a,.ptr b=>Nat.beq a b
 | .map a c,.map b d=>Nat.beq a b&&Nat.beq c d
 | _,_=>false
theorem NP {a b:TK} (h:Q8 a b=true):a=b:=by
 cases a <;> cases b <;> simp only [Q8,Bool.and_eq_true,decide_eq_true_eq,reduceCtorEq,Bool.false_eq_true]at h <;>
  first | rfl | (rw [h]) | (rw [Nat.eq_of_beq_eq_true h]) | (rw [Af h]) | (rw [Nat.eq_of_beq_eq_true h.1,Nat.eq_of_beq_eq_true h.2])
def zeq:Value→Value→Bool
 | .bool a,.bool b=>a==b
 | .int j a,.int k b=>decide (j=k)&&decide (a=b)
 | .string a,.string b=>decide (a.data=b.data)
 | .slice none 0 0,.slice none 0 0=>true
 | .pointer none,.pointer none=>true
 | .map none,.map none=>true
 | .nilFunc,.nilFunc=>true
 | .nilIface,.nilIface=>true
 | _,_=>false
theorem MZ {a b:Value} (h:zeq a b=true):a=b:=by
 unfold zeq at h;split at h
 ·rw [eq_of_beq h]
 ·simp only [Bool.and_eq_true,decide_eq_true_eq]at h;rw [h.1,h.2]
 ·rename_i x y;have:=of_decide_eq_true h
  obtain ⟨x⟩:=x;obtain ⟨y⟩:=y;simp only at this;rw [this]
 all_goals first | rfl | cases h
section
variable (T:Nat→TI) (N:Nat)
def PE:Nat→AV→List Value→Bool
 | _,.v x,[y]=>kK x&&zeq x y
 | f+1,.agg t n get,cs=>Nat.blt t N&&(match (T t).kind with
  | .struct fs=>Nat.beq fs.length n&&Nat.beq cs.length (lK T fs n)&&(List.range n).all fun i=>match fs[i]? with
   | some u=>fit T u (get i)&&Nat.beq ((cs.drop (lK T fs i)).take (T u).size).length (T u).size&&PE f (get i) ((cs.drop (lK T fs i)).take (T u).size)
   | none=>false
  | .array m e=>Nat.beq m n&&Nat.beq cs.length (n*(T e).size)&&(List.range n).all fun i=>fit T e (get i)&&Nat.beq ((cs.drop (i*(T e).size)).take (T e).size).length (T e).size&&PE f (get i) ((cs.drop (i*(T e).size)).take (T e).size)
  | _=>false)
 | _,_,_=>false
variable {T N}
theorem EX (cs:List Value) (off:Nat→Nat) (n:Nat) (segs:Nat→List Value) (h:∀ i,i<n→segs i=(cs.drop (off i)).take (segs i).length) (ho:∀ i,i<n→off i=jq (fun i=>(segs i).length) i) (hl:cs.length=jq (fun i=>(segs i).length) n):(List.range n).flatMap segs=cs:=by
 have key:∀ k,k≤n→(List.range k).flatMap segs=cs.take (jq (fun i=>(segs i).length) k):=by
  intro k
  induction k with
  | zero=>intro _;simp [jq]
  | succ k ih =>
   intro hk;rw [List.range_succ,List.flatMap_append,ih (by omega)];simp only [List.flatMap_cons,List.flatMap_nil,List.append_nil,jq];rw [List.take_add,← ho k (by omega),← h k (by omega)]
 rw [key n (Nat.le_refl _),← hl,List.take_length]
theorem KA:∀ (f:Nat) (x:AV) (cs:List Value),PE T N f x cs=true → ∀ (I:Imm) (ρ:Pl),Rep T N I ρ x cs:=by
 intro f
 induction f with
 | zero =>
  intro x cs h I ρ;unfold PE at h;split at h
  ·simp only [Bool.and_eq_true]at h;rw [← MZ h.2];exact .v h.1
  ·rename_i e;cases e
  ·cases h
 | succ f ih =>
  intro x cs h I ρ;unfold PE at h;split at h
  ·simp only [Bool.and_eq_true]at h;rw [← MZ h.2];exact .v h.1
  ·rename_i cs _ _ csx f' t n get he;cases he;simp only [Bool.and_eq_true]at h;obtain ⟨ht,h⟩:=h;have ht:=iw ht
   split at h
   ·rename_i fs hk;simp only [Bool.and_eq_true,List.all_eq_true,List.mem_range]at h;obtain ⟨⟨h1,h2⟩,h3⟩:=h;have hn:=Nat.eq_of_beq_eq_true h1
    have hl:=Nat.eq_of_beq_eq_true h2;have each:∀ i u,fs[i]? = some u→fit T u (get i)=true∧((cs.drop (lK T fs i)).take (T u).size).length=(T u).size∧Rep T N I ρ (get i) ((cs.drop (lK T fs i)).take (T u).size):=by
     intro i u hu;have:=h3 i (by rw [← hn];exact (List.getElem?_eq_some_iff.1 hu).1)
     rw [hu]at this;simp only [Bool.and_eq_true]at this;exact ⟨this.1.1,Nat.eq_of_beq_eq_true this.1.2,ih _ _ this.2 I ρ⟩
    let segs:Nat→List Value:=fun i=>(cs.drop (lK T fs i)).take (((fs[i]?).map fun u=>(T u).size).getD 0)
    have hsegs:∀ i u,fs[i]? = some u→segs i=(cs.drop (lK T fs i)).take (T u).size:=fun i u hu=>by simp [segs,hu]
    have hlen:∀ i,i<n→(segs i).length=((fs[i]?).map fun u=>(T u).size).getD 0:=fun i hi=>by
     have hi':i<fs.length:=by omega
     rw [hsegs i _ (List.getElem?_eq_getElem hi'),(each i _ (List.getElem?_eq_getElem hi')).2.1];simp [hi']
    have hoff:∀ i,i≤n→lK T fs i=jq (fun i=>(segs i).length) i:=fun i hi=>dh fun j hj=>(hlen j (by omega)).symm;have hcut:=EX cs (lK T fs) n segs (fun i hi=>by
     have hi':i<fs.length:=by omega
     conv=>lhs;rw [hsegs i _ (List.getElem?_eq_getElem hi')]
     rw [hlen i hi];simp [hi']) (fun i hi=>hoff i (by omega)) (by rw [hl];exact hoff n (Nat.le_refl _))
    rw [← hcut];exact .struct fs segs hk hn ht (fun i u hu=>by rw [hsegs i u hu];exact (each i u hu).2.2) (fun i u hu=>(each i u hu).1) (fun i u hu=>by rw [hsegs i u hu];exact (each i u hu).2.1)
   ·rename_i m e hk;simp only [Bool.and_eq_true,List.all_eq_true,List.mem_range]at h;obtain ⟨⟨h1,h2⟩,h3⟩:=h;have hn:=Nat.eq_of_beq_eq_true h1
    have hl:=Nat.eq_of_beq_eq_true h2;subst hn;have each:∀ i,i<m→fit T e (get i)=true∧((cs.drop (i*(T e).size)).take (T e).size).length=(T e).size∧Rep T N I ρ (get i) ((cs.drop (i*(T e).size)).take (T e).size):=by
     intro i hi;have:=h3 i hi
     exact ⟨this.1.1,Nat.eq_of_beq_eq_true this.1.2,ih _ _ this.2 I ρ⟩
    have hoff:∀ i,i≤m→i*(T e).size=jq (fun i=>((cs.drop (i*(T e).size)).take (T e).size).length) i:=fun i hi=>by
     rw [← jC];exact dh fun j hj=>(each j (by omega)).2.1.symm
    have hcut:=EX cs (fun i=>i*(T e).size) m (fun i=>(cs.drop (i*(T e).size)).take (T e).size) (fun i hi=>by rw [(each i hi).2.1]) (fun i hi=>hoff i (by omega)) (by rw [hl];exact hoff m (Nat.le_refl _));have:=Rep.array (I:=I) (ρ:=ρ) (t:=t) (get:=get) e (fun i=>(cs.drop (i*(T e).size)).take (T e).size) hk ht (fun i hi=>(each i hi).2.2) (fun i hi=>(each i hi).1) (fun i hi=>(each i hi).2.1)
    rw [hcut]at this;exact this
   ·cases h
  ·cases h
end
end Go.Ab
