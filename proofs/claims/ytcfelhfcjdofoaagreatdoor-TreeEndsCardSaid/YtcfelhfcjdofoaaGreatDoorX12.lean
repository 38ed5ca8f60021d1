/- Part 13 of a proof of a statement about the given program: an abstract machine over the model, proved sound, and contracts of the functions that the statement reaches; the last part proves the statement, for every input, with no condition. -/
import Derived.Test.YtcfelhfcjdofoaaGreatDoorX11
import Derived.MapKept
import Derived.Laws.StructEq
import Derived.TacticsIn
import Derived.OrdersIn
import Derived.Orders
import Derived.RangeFuncLeaves
import Derived.RangeFuncFrom
import Derived.ChangeKeysEq
import Derived.ProofKit
import Derived.SizedLaws
import Derived.Lib.RowBridge
set_option autoImplicit false
set_option linter.unusedSimpArgs false
set_option linter.unusedVariables false
namespace Go.Ab
def yL (B:List Ob):Id->Option Ob
 | .b j=>B[j]?
 | .s _ _=>none
def callable (P:Program) (f:FuncId):Prop := ∃ fn,P.funcs[f]? = some fn/\(fn.name == "runtime.NumGoroutine")=false/\fn.body.isSome=true
section
variable (P:Program) (T:Nat->TI) (N:Nat)
def AC (f:FuncId) (args:List AV) (B:List Ob) (r:AV) (B':List Ob):Prop :=
 callable P f /\ ∀ (I:fK) (ρ:Pl) (w:World) (vs:List Value),vs.length=args.length->(∀ (i:Nat) (a:AV) (v:Value),args[i]? = some a->vs[i]? = some v->gB T N I ρ a v)->dY T N I ρ (yL B) w ->
  Calls P f vs.toArray w λe w' => ∃ v I' ρ',e = .returned v/\Ev I ρ w I' ρ' w'/\gB T N I' ρ' r v/\dY T N I' ρ' (yL B') w'
end
section
variable {P:Program} {T:Nat->TI} {N:Nat}
def rQ (w:World):fK:=λb o=>w.cell? ⟨b,o,none⟩
theorem dU.scalar {I:fK} {ρ:Pl} {x:Value} {y:Value} (h:dU T N I ρ (.v x) y) (I':fK) (ρ':Pl):dU T N I' ρ' (.v x) y:=by
 obtain ⟨rfl,hp⟩:=h.v;exact DN hp
theorem gB.scalar {I:fK} {ρ:Pl} {x:AV} {y:Value} (h:gB T N I ρ x y) (hx:FC x=true) (I':fK) (ρ':Pl):gB T N I' ρ' x y:=by
 cases h with| one h=>(cases x <;> first | cases hx | skip);{exact .one (h.scalar I' ρ')};obtain ⟨cs,g,_⟩:=h;exact absurd g AZ| tup ys hl h=>refine .tup ys hl (λi c hi=>?_);simp only [FC,adp]at hx;have hc:=hx c (ac8 hi);split at hc;{exact (h i _ hi).scalar I' ρ'};(cases hc)
theorem dU.fE {I:fK} {ρ:Pl} {x:AV} {y:Value} (h:dU T N I ρ x y) (hx:Ab.fE x=true) (ρ':Pl):dU T N I ρ' x y:=by
 obtain ⟨cs,a,b⟩:=h;exact ⟨cs,a.fE hx ρ',b⟩
theorem gB.fE {I:fK} {ρ:Pl} {x:AV} {y:Value} (h:gB T N I ρ x y) (hx:La x=true) (ρ':Pl):gB T N I ρ' x y:=by
 cases h with| one h=>refine .one (h.fE ?_ ρ');(cases x <;> first | exact hx | (obtain ⟨cs,g,_⟩:=h;exact absurd g AZ))| tup ys hl h=>simp only [La,adp]at hx;exact .tup ys hl (λi c hi=>(h i c hi).fE (hx c (ac8 hi)) ρ')
theorem dY.ty_lt {I:fK} {ρ:Pl} {m:Id->Option Ob} {w:World} (hw:dY T N I ρ m w) {id:Id} {B:zI} (hm:m id=some (.cells B)):B.ty<N:=by
 rcases hw.cells id B hm with ⟨_,_,_,h⟩ | ⟨p,cs,_,_,_,h,_⟩
 ·exact h
 exact h
theorem rD {α:Type} {i n:Nat} (h:i<n) (a b:α):(bif Nat.blt i n then a else b)=a:=by
 have:Nat.blt i n=true:=by rw [adV];exact h
 rw [this,adv]
theorem Rep.yH (hT:jf P T N) {I:fK} {r:Pl} {m:Id->Option Ob} {w:World} (hw:dY T N I r m w) {ρ:Pl} {x:AV} {cs:List Value} (h:Rep T N I ρ x cs):(∀ id p,ρ id=some p->r id=some p)->YN m x->Rep T N (rQ w) iG (Ab.yH m x) cs /\ ∀ t,fit T t (Ab.yH m x)=fit T t x:=by
 have hI:iK I (rQ w):=λb o z hz=>hw.imm b o z hz;induction h with| v h=>intro _ _;exact ⟨.v h,λt=>rfl⟩| struct fs segs hk hn ht h hf hl s=>intro d hd;have j:∀ i,i<_->YN m _:=hd;have q:∀ i u,fs[i]? = some u->i<_:=λi u l=>hn▸(List.getElem?_eq_some_iff.1 l).1;exact ⟨.struct fs segs hk hn ht (λi u l=>by rw [rD (q i u l)];exact (s i u l d (j i (q i u l))).1) (λi u l=>by rw [rD (q i u l),(s i u l d (j i (q i u l))).2];exact hf i u l) hl,λt=>rfl⟩| array e segs hk ht h hf hl s=>intro d hd;have j:∀ i,i<_->YN m _:=hd;exact ⟨.array e segs hk ht (λi hi=>by rw [rD hi];exact (s i hi d (j i hi)).1) (λi hi=>by rw [rD hi,(s i hi d (j i hi)).2];exact hf i hi) hl,λt=>rfl⟩| row b off cap segs he hc hm hfull h hf hl hi _=>intro _ _;exact ⟨(Rep.row (ρ:=iG) b off cap segs he hc hm hfull h hf hl hi).mono hI (iJ.refl _),λt=>rfl⟩| row0 he=>intro _ _;exact ⟨.row0 he,λt=>rfl⟩| rp b off seg ht h hf hl hi _=>intro _ _;exact ⟨(Rep.rp (ρ:=iG) b off seg ht h hf hl hi).mono hI (iJ.refl _),λt=>rfl⟩| @own ρ id n i len cap x p hp hn hx1 hx=>intro d hd;have y:=d _ _ hp;simp only [YN]at hd;simp only [Ab.yH];(cases a:m id with| none=>rw [a]at hd;exact hd.elim| some o=>rw [a]at hd;(cases o with| map es=>exact hd.elim| cells B=>simp only at hd ⊢;obtain ⟨e1,a0⟩:=hd;refine ⟨?_,λt=>rfl⟩;obtain ⟨q',cs,c1,c2,c3,c4,c5,c6,c7,c8,c9,a1⟩:=hw.cellsAt a y;rw [y]at c1;cases c1;obtain ⟨c,rfl,g1,g2,g3,g4,g5,g6⟩:=hx (by rw [c3,e1]);(have hex:∀ k,∃ seg,k<len->Rep T N I r (B.get (k+i)) seg/\fit T B.ty (B.get (k+i))=true/\seg.length=(T B.ty).size /\ ∀ o,o<(T B.ty).size->cs[(k+i)*(T B.ty).size+o]? = seg[o]? := by intro k;by_cases hk:k<len;{obtain ⟨seg,hs⟩:=c8 (k+i) (by omega);exact ⟨seg,λ_=>hs⟩};exact ⟨[],λh=>absurd h hk⟩);have g:=λk=>adt (hex k);refine .row p.b (i*(T p.ty).size) c (λk=>Classical.choose (hex k)) c4 g1 g2 (λh=>by cases h) (λk hk=>(((g k hk).1.fE (a0 k hk) iG).mono hI (iJ.refl _))) (λk hk=>(g k hk).2.1) (λk hk=>(g k hk).2.2.1) (λk hk o ho=>?_);have h1:=(g k hk).2.2.2 o ho;simp only [rQ,World.cell?,c5];simp only [Option.isSome_none,adW,adH];rw [<- h1,c2];congr 1;rw [adD];omega))| @own0 ρ id cap=>intro _ hd;simp only [YN]at hd;simp only [Ab.yH];(cases a:m id with| none=>rw [a]at hd;exact hd.elim| some o=>rw [a]at hd;(cases o with| map es=>exact hd.elim| cells B=>exact ⟨.row0 (hw.ty_lt a),λt=>rfl⟩))| arr=>(intro _ hd;cases hd)| ptr=>(intro _ hd;cases hd)| @clo ρ f caps ys hl h s=>intro _ hd;exact ⟨((Rep.clo (I:=I) (T:=T) (N:=N) (ρ:=ρ) ys hl h).fE hd iG).mono hI (iJ.refl _),λt=>rfl⟩| mp=>(intro _ hd;cases hd)
theorem QK (hT:jf P T N) {I:fK} {ρ:Pl} {m:Id->Option Ob} {w:World} (hw:dY T N I ρ m w) {x:AV} {y:Value} {r:AV×Option Prop×Bool×List Id} (hx:gB T N I ρ x y) (h:Vp T m x=some r) (hc:ay r.2.1) :
 gB T N (rQ w) iG r.1 y/\(r.2.2.1=false->gB T N I iG r.1 y):=by
 have hI:iK I (rQ w):=λb o z hz=>hw.imm b o z hz;unfold Vp at h;split at h
 ·rename_i id n i len cap;split at h
  ·rename_i B hm;rw [show (λj=>B.get (j+i))=λj=>B.get (i+j)from funext λj=>by rw [aea]]at h
   cases h;simp only [ay]at hc;obtain ⟨l,hc⟩:=hc;have hc:=λj hj=>(show fE (B.get (i+j))=true from aea j i▸hc j hj)
   rcases Rep.own_inv (hx.rep1 (λ_=>by simp))with ⟨rfl,rfl,rfl,rfl⟩ | ⟨q,d,hn,hx⟩
   ·exact ⟨.one ⟨[_],.row0 (hw.ty_lt hm),rfl⟩,λh=>by cases h⟩
   obtain ⟨q',cs,c1,c2,c3,c4,c5,c6,c7,c8,c9,a0⟩:=hw.cellsAt hm d;rw [d]at c1;cases c1;obtain ⟨c,rfl,g1,g2,s,g4,g5,g6⟩:=hx (by rw [c3,l]);refine ⟨.one ⟨[_],?_,rfl⟩,λh=>by cases h⟩;have hex:∀ k,∃ seg,k<len->Rep T N I ρ (B.get (i+k)) seg/\fit T B.ty (B.get (i+k))=true/\seg.length=(T B.ty).size /\ ∀ o,o<(T B.ty).size->cs[(i+k)*(T B.ty).size+o]? = seg[o]? := by
    intro k;by_cases hk:k<len
    ·obtain ⟨seg,hs⟩:=c8 (i+k) (by omega);exact ⟨seg,λ_=>hs⟩
    ·exact ⟨[],λh=>absurd h hk⟩
   have a:=λk=>adt (hex k);refine .row q.b (i*(T q.ty).size) c (λk=>Classical.choose (hex k)) c4 g1 g2 (λh=>by cases h) (λk hk=>(((a k hk).1.fE (hc k hk) iG).mono hI (iJ.refl _))) (λk hk=>(a k hk).2.1) (λk hk=>(a k hk).2.2.1) (λk hk o g=>?_);have h1:=(a k hk).2.2.2 o g
   simp only [rQ,World.cell?,c5];simp only [Option.isSome_none,adW,adH];rw [<- h1,c2];congr 1;rw [adD];omega
  ·cases h
 ·rename_i id n i p lo len hi;split at h
  ·rename_i B hm;simp only [aaC,abf]at h;obtain ⟨e,he,rfl⟩:=h;simp only [ay]at hc;obtain ⟨l,hc⟩:=hc;obtain ⟨q,d,hn,hx⟩:=Rep.arr_inv (hx.rep1 (λ_=>by simp))
   obtain ⟨q',cs,c1,c2,c3,c4,c5,c6,c7,c8,c9,a0⟩:=hw.cellsAt hm d;rw [d]at c1;cases c1;obtain ⟨a3,ta,ka,f,g1,g2,s,g4,g5,g6,rfl⟩:=hx (by rw [c3,l]);rw [<- c2,lV p g1]at he;have a2:f=e:=by simpa [aY,s]using he
   subst a2;refine ⟨.one ⟨[_],?_,rfl⟩,λh=>by cases h⟩;have hex:∀ k,∃ seg,k<len->Rep T N I ρ (((B.get i).at p).at [lo+k]) seg/\fit T f (((B.get i).at p).at [lo+k])=true/\seg.length=(T f).size /\
    ∀ o,o<(T f).size->w.cell? ⟨q.b,i*(T q.ty).size+aG T q.ty p+lo*(T f).size+(k*(T f).size+o),none⟩=seg[o]? := by
    intro k;by_cases hk:k<len
    ·obtain ⟨seg,u,v,s3,s4⟩:=ptr_cells hw hm d (i:=i) (p:=p++[lo+k]) (t:=f) (by rw [l];exact a3) (by rw [<- c2,lV p g1];simp [aY,s]) (by rw [<- c2];exact nN p g1 g2 (by simp [pathIn,s];omega));rw [F6]at u v;refine ⟨seg,λ_=>⟨u,v,s3,λo g=>?_⟩⟩;rw [<- s4 o g,lZ p g1];congr 2;simp only [aG,s,adD];omega
    ·exact ⟨[],λh=>absurd h hk⟩
   have a:=λk=>adt (hex k);refine .row q.b (i*(T q.ty).size+aG T q.ty p+lo*(T f).size) (hi - lo) (λk=>Classical.choose (hex k)) (hT.array ta ka f s).1 (by omega) (by omega) (λh=>by cases h) (λk hk=>(((a k hk).1.fE (hc k hk) iG).mono hI (iJ.refl _))) (λk hk=>(a k hk).2.1) (λk hk=>(a k hk).2.2.1) (λk hk o g=>?_);exact (a k hk).2.2.2 o g
  ·cases h
 ·cases h
 ·rename_i id n i p;split at h
  ·rename_i B hm;simp only [aaC,abf]at h;obtain ⟨t,ht,rfl⟩:=h;simp only [ay]at hc;obtain ⟨l,hd⟩:=hc;refine ⟨.one ?_,λh=>by cases h⟩
   obtain ⟨cs,hr,hy⟩:=hx.rep1 (λ_=>by simp);cases hr with
   | ptr q d hn hx1 hxp =>
   obtain ⟨q',ds,c1,c2,c3,_⟩:=hw.cellsAt hm d;rw [d]at c1;cases c1;obtain ⟨hi,a4,rfl⟩:=hxp (by rw [c3,l]);obtain ⟨seg,u,v,s3,s4⟩:=ptr_cells hw hm d (i:=i) (p:=p) (t:=t) (by omega) ht (by rw [<- c2];exact a4);obtain ⟨v1,v2⟩:=u.yH hT hw (λ_ _ h=>h) hd;refine ⟨[_],.rp q.b (i*(T q.ty).size+aG T q.ty p) seg (hT.pathLt p (hw.ty_lt hm) ht) v1 (by rw [v2];exact v) s3 (λo g=>?_),hy⟩;exact s4 o g
  ·cases h
 ·rename_i h1 h2 h3 h4;obtain ⟨hb,h⟩:=aB h;cases h;have hx1:=hx.rep1 (λvs e=>h3 vs e)
  exact ⟨.one ((hx1.fE hb iG).mono hI (iJ.refl _)),λ_ => .one (hx1.fE hb iG)⟩
theorem Ii (hT:jf P T N) {I:fK} {ρ:Pl} {m:Id->Option Ob} {w:World} (hw:dY T N I ρ m w):∀ (xs:List AV) (ys:List Value) (r:List AV×Option Prop×Bool×List Id),ys.length=xs.length ->
 (∀ (i:Nat) (x:AV) (y:Value),xs[i]? = some x->ys[i]? = some y->gB T N I ρ x y)->QJ T m xs=some r->ay r.2.1 ->
 r.1.length=xs.length/\(∀ (i:Nat) (x:AV) (y:Value),r.1[i]? = some x->ys[i]? = some y->gB T N (rQ w) iG x y/\(r.2.2.1=false->gB T N I iG x y))
 | [],ys,r,_,_,h,_=>by cases h;exact ⟨rfl,λi x y hi=>by simp at hi⟩
 | x::xs,[],r,hl,_,_,_=>by simp at hl
 | x::xs,y::ys,r,hl,hr,h,hc=>by simp only [QJ,aaC,abf]at h;obtain ⟨a,f,l,g,rfl⟩:=h;rw [aI]at hc;have g1:=QK hT hw (hr 0 x y rfl rfl) f hc.1;have e:=Ii hT hw xs ys l (by simpa using hl) (λi x' d b c=>hr (i+1) x' d (by simpa using b) (by simpa using c)) g hc.2;refine ⟨by simp [e.1],λi x' d b c=>?_⟩;cases i with| zero=>simp at b c;subst b c;exact ⟨g1.1,λhb=>g1.2 (by simp only [aee]at hb;exact hb.1)⟩| succ i=>simp at b c;have:=e.2 i x' d b c;exact ⟨this.1,λhb=>this.2 (by simp only [aee]at hb;exact hb.2)⟩
theorem sQ {I:fK} {w:World} (h:∀ b o y,I b o=some y->w.cell? ⟨b,o,none⟩=some y) (hg:∀ (b o n:Nat),(T b).glb[o]? = some n->I b o=some (.int .u8 n)):dY T N I iG (yL []) w where
 cells:=λid B hm=>by cases id <;> simp [yL]at hm
 maps:=λid es hm=>by cases id <;> simp [yL]at hm
 dom:=λid p hp=>by simp [iG]at hp
 inj:=λi j p q hp=>by simp [iG]at hp
 imm:=h
 gl:=hg
theorem dY.untouched {I I':fK} {ρ:Pl} {m:Id->Option Ob} {w w':World} (hw:dY T N I ρ m w) (x:∀ b,b<w.heap.size->w'.heap[b]? = w.heap[b]?) (hI:iK I I') (u:∀ b o,I b o=none->I' b o≠none->w.heap.size<=b)
 (hi:∀ b o y,I' b o=some y->w'.cell? ⟨b,o,none⟩=some y):dY T N I' ρ m w' where
 cells:=λid B hm=>by rcases hw.cells id B hm with h | ⟨p,z,a,c,d,f,g,l,d7,d8,d9,d10⟩;{exact .inl h};have hp:=hw.place_lt a;refine .inr ⟨p,z,a,c,d,f,by rw [x _ hp];exact g,l,d7,λi hi=>?_,λj t=>d9 j (λe=>?_),d10⟩;{obtain ⟨seg,q,r,s,e4⟩:=d8 i hi;exact ⟨seg,q.mono hI (iJ.refl _),r,s,e4⟩};have:=u _ _ e t;omega
 maps:=λid es hm=>by obtain ⟨p,en,cl,a,c,d,f,g,l⟩:=hw.maps id es hm;have hp:=hw.place_lt a;refine ⟨p,en,cl,a,c,by rw [x _ hp];exact d,f,λj=>?_,λi k v hi=>?_⟩;{cases t:I' p.b j with| none=>rfl| some y=>have:=u _ _ (g j) (by rw [t];simp);omega};obtain ⟨e,q,r,s⟩:=l i k v hi;exact ⟨e,q,r.mono hI (iJ.refl _),s.mono hI (iJ.refl _)⟩
 dom:=hw.dom
 inj:=hw.inj
 imm:=hi
 gl:=λb o n h=>hI _ _ _ (hw.gl b o n h)
theorem VE (hT:jf P T N) {I:fK} {ρ:Pl} {m:Id->Option Ob} {w:World} (hw:dY T N I ρ m w) {f:FuncId} {args:List AV} {r:AV} {vs:List Value} {fz:Bool} (j:AC P T N f args [] r []) (hl:vs.length=args.length)
 (c:∀ (i:Nat) (x:AV) (y:Value),args[i]? = some x->vs[i]? = some y->gB T N (rQ w) iG x y/\(fz=false->gB T N I iG x y)) (z:La r=true) (hs:fz=true->FC r=true) :
 Calls P f vs.toArray w λe w' => ∃ v I',e = .returned v/\Ev I ρ w I' ρ w'/\gB T N I' ρ r v/\dY T N I' ρ m w':=by
 cases fz with
 | true =>
  refine (j.2 (rQ w) iG w vs hl (λi x y l q=>(c i x y l q).1) (sQ (λb o y h=>h) (λb o n h=>hw.imm _ _ _ (hw.gl b o n h)))).mono ?_;rintro e w' ⟨v,I',ρ',rfl,a,s,k⟩;have g:∀ b,b<w.heap.size->w'.heap[b]? = w.heap[b]? := λb hb=>a.frame b hb (λid p hp=>by simp [iG]at hp)
  refine ⟨v,I,rfl,⟨iK.refl _,λb o h d=>absurd h d,iJ.refl _,λid p hp => .inl ⟨id,p,hp,rfl⟩,λb hb _=>g b hb,a.size,a.os,a.output,a.tape⟩,s.scalar (hs rfl) _ _,?_⟩;exact hw.untouched g (iK.refl _) (λb o h d=>absurd h d) (λb o y h=>by
   have t:=hw.imm b o y h;rw [nX (g b (lQ t))];exact t)
 | false =>
  refine (j.2 I iG w vs hl (λi x y l q=>(c i x y l q).2 rfl) (sQ hw.imm hw.gl)).mono ?_;rintro e w' ⟨v,I',ρ',rfl,a,s,k⟩;have g:∀ b,b<w.heap.size->w'.heap[b]? = w.heap[b]? := λb hb=>a.frame b hb (λid p hp=>by simp [iG]at hp)
  have u:∀ b o,I b o=none->I' b o≠none->w.heap.size<=b:=λb o h d=>by
   rcases a.immN b o h d with ⟨id,p,hp,_⟩ | h
   ·simp [iG]at hp
   ·exact h
  refine ⟨v,I',rfl,⟨a.imm,λb o h d => .inr (u b o h d),iJ.refl _,λid p hp => .inl ⟨id,p,hp,rfl⟩,λb hb _=>g b hb,a.size,a.os,a.output,a.tape⟩,s.fE z _,?_⟩;exact hw.untouched g a.imm u k.imm
end
section
variable {P:Program} {T:Nat->TI} {N:Nat}
theorem BU (a:Id->Id):∀ l,Xt a l=l.map (ren a)
 | []=>rfl
 | x::r=>by simp [Xt,BU a r]
theorem wG (ids:List Id):∀ l,AX ids l=l.all (fH ids)
 | []=>rfl
 | x::r=>by simp [AX,wG ids r]
theorem xY (a:Id->Id) (t:Nat) (x:AV):fit T t (ren a x)=fit T t x:=by cases x <;> simp [ren,fit]
theorem Rep.ren {I:fK} {ρ:Pl} {x:AV} {cs:List Value} (h:Rep T N I ρ x cs):∀ {ρ':Pl} {ids:List Id} {d:Id->Id},(∀ id,gX ids id=true->ρ' (d id)=ρ id)->fH ids x=true->Rep T N I ρ' (Ab.ren d x) cs:=by
 induction h with| v h=>intro _ _ _ _ _;exact .v h| struct fs segs hk hn ht h hf hl g=>intro ρ' ids d a hi;simp only [fH,adp,adE]at hi;simp only [Ab.ren];exact .struct fs segs hk hn ht (λi u k=>g i u k a (hi i (by rw [<- hn];exact (List.getElem?_eq_some_iff.1 k).1))) (λi u k=>by rw [xY];exact hf i u k) hl| array e segs hk ht h hf hl g=>intro ρ' ids d a hi;simp only [fH,adp,adE]at hi;simp only [Ab.ren];exact .array e segs hk ht (λi j=>g i j a (hi i j)) (λi j=>by rw [xY];exact hf i j) hl| row b off cap segs he hc hm hfull h hf hl hI g=>intro _ _ _ _ _;exact .row b off cap segs he hc hm hfull h hf hl hI| row0 he=>intro _ _ _ _ _;exact .row0 he| rp b off seg ht h hf hl hI=>intro _ _ _ _ _;exact .rp b off seg ht h hf hl hI| own p hp hn hx1 hx=>intro ρ' ids d a hi;exact .own p (by rw [a _ hi];exact hp) hn hx1 hx| own0=>intro _ _ _ _ _;exact .own0| arr p hp hn hx1 hx=>intro ρ' ids d a hi;exact .arr p (by rw [a _ hi];exact hp) hn hx1 hx| ptr p hp hn hx1 hx=>intro ρ' ids d a hi;exact .ptr p (by rw [a _ hi];exact hp) hn hx1 hx| @clo _ f caps ys hl h g=>intro ρ' ids d a hi;simp only [fH,wG,adp]at hi;simp only [Ab.ren,BU];refine .clo ys (by simpa using hl) (λi c hc=>?_);simp only [ady,ade]at hc;obtain ⟨l,m,rfl⟩:=hc;exact g i l m a (hi l (ac8 m))| mp p hp hx1 hx=>intro ρ' ids d a hi;exact .mp p (by rw [a _ hi];exact hp) hx1 hx
theorem JD (a:Id->Id) (x:AV) (cs:List Value):fF (ren a x) cs=fF x cs:=by cases x <;> simp [ren,fF]
theorem dU.ren {I:fK} {ρ:Pl} {x:AV} {y:Value} (h:dU T N I ρ x y) {ρ':Pl} {ids:List Id} {b:Id->Id} (a:∀ id,gX ids id=true->ρ' (b id)=ρ id) (hi:fH ids x=true):dU T N I ρ' (Ab.ren b x) y:=by
 obtain ⟨cs,c,d⟩:=h;exact ⟨cs,c.ren a hi,by rw [JD];exact d⟩
theorem gB.ren {I:fK} {ρ:Pl} {x:AV} {y:Value} (h:gB T N I ρ x y) {ρ':Pl} {ids:List Id} {e:Id->Id} (a:∀ id,gX ids id=true->ρ' (e id)=ρ id) (hi:fH ids x=true):gB T N I ρ' (Ab.ren e x) y:=by
 cases h with| one h=>exact .one (h.ren a hi)| @tup vs ys hl h=>simp only [fH,wG,adp]at hi;simp only [Ab.ren,BU];refine .tup ys (by simpa using hl) (λi c hc=>?_);simp only [ady,ade]at hc;obtain ⟨b,d,rfl⟩:=hc;exact (h i b d).ren a (hi b (ac8 d))
def addN (I:fK) (b:Nat) (cs:List Value) (k:Nat):fK:=λc o=>if c=b/\o<k then cs[o]? else I c o
theorem dY.freeze {I:fK} {ρ:Pl} {m:Id->Option Ob} {w:World} (hw:dY T N I ρ m w) {id:Id} {B:zI} (hm:m id=some (.cells B)) {q:Place} (g:ρ id=some q) {cs:Array Value} (u:w.heap[q.b]? = some (.cells cs B.ty (0,0))) {k:Nat} (hk:k<=B.n) :
 iK I (addN I q.b cs.toList (k*(T B.ty).size))/\Ev I ρ w (addN I q.b cs.toList (k*(T B.ty).size)) ρ w/\dY T N (addN I q.b cs.toList (k*(T B.ty).size)) ρ (uy m id (.cells { B with fz:=max B.fz k})) w:=by
 obtain ⟨q',b1,c1,c2,c3,c4,c5,c6,c7,c8,c9,a6⟩:=hw.cellsAt hm g;rw [g]at c1;cases c1;rw [u]at c5;cases c5;have c:iK I (addN I q.b cs.toList (k*(T B.ty).size)):=by
  intro b o y h;unfold addN;split
  ·rename_i hb;obtain ⟨rfl,_⟩:=hb;have:=hw.imm _ _ _ h
   simp only [World.cell?,u]at this;simpa using this
  ·exact h
 have f:∀ b o,b≠q.b->addN I q.b cs.toList (k*(T B.ty).size) b o=I b o:=λb o h=>by unfold addN;rw [Y0 (λe=>h e.1)]
 refine ⟨c,⟨c,λb o h h'=>?_,iJ.refl _,λa p hp => .inl ⟨a,p,hp,rfl⟩,λ_ _ _=>rfl,aa3 _,rfl,rfl,⟨rfl,aa3 _⟩⟩,?_,?_,?_,?_,?_,λb o n h=>c _ _ _ (hw.gl b o n h)⟩
 ·by_cases hb:b=q.b
  ·exact .inl ⟨id,q,g,hb.symm⟩
  ·rw [f b o hb]at h';exact absurd h h'
 ·intro a A hA;by_cases d:a=id
  ·subst d;rw [eY]at hA;cases hA;refine .inr ⟨q,cs,g,c2,c3,c4,u,c6,c7,λi hi=>?_,λj x=>?_,by simp only;omega⟩
   ·obtain ⟨seg,r,s⟩:=c8 i hi;exact ⟨seg,r.mono c (iJ.refl _),s⟩
   ·by_cases t:j<k*(T B.ty).size
    ·exact adC t (ab7 _ (Nat.le_max_right _ _))
    ·have:addN I q.b cs.toList (k*(T B.ty).size) q.b j=I q.b j:=by unfold addN;rw [Y0 (λe=>t e.2)]
     rw [this]at x;exact adC (c9 j x) (ab7 _ (Nat.le_max_left _ _))
  ·rw [iI _ _ d]at hA;rcases hw.cells a A hA with h | ⟨p,ds,l,d2,d3,d4,d5,d6,d7,d8,d9,d10⟩
   ·exact .inl h
   ·have hb:p.b≠q.b:=λe=>d (hw.inj a id p q l g e);refine .inr ⟨p,ds,l,d2,d3,d4,d5,d6,d7,λi hi=>?_,λj x=>d9 j (by rwa [f _ _ hb]at x),d10⟩;obtain ⟨seg,r,s⟩:=d8 i hi;exact ⟨seg,r.mono c (iJ.refl _),s⟩
 ·intro a es hA;have d:a≠id:=by rintro rfl;rw [eY]at hA;cases hA
  rw [iI _ _ d]at hA;obtain ⟨p,en,cl,l,d2,d3,d4,d5,d6⟩:=hw.maps a es hA;have hb:p.b≠q.b:=λe=>d (hw.inj a id p q l g e)
  refine ⟨p,en,cl,l,d2,d3,d4,λj=>by rw [f _ _ hb];exact d5 j,λi k v hi=>?_⟩;obtain ⟨e,r,s,e3⟩:=d6 i k v hi;exact ⟨e,r,s.mono c (iJ.refl _),e3.mono c (iJ.refl _)⟩
 ·intro a p hp;by_cases d:a=id
  ·subst d;rw [eY];simp
  ·rw [iI _ _ d];exact hw.dom a p hp
 ·exact hw.inj
 ·intro b o y z;unfold addN at z;split at z
  ·rename_i hb;obtain ⟨rfl,_⟩:=hb;simp only [World.cell?,u];simpa using z
  ·exact hw.imm b o y z
theorem Uo {m:Id->Option Ob} {id:Id} {o:Ob} (h:m id=some o):uy m id o=m:=by
 funext a;by_cases b:a=id
 ·subst b;rw [eY,h]
 rw [iI _ _ b]
theorem OI {len:Nat} {cap:Option Nat} (h:OJ len cap=true):cap=some len:=by
 cases cap with| none=>(cases h)| some c=>rw [abJ (show Nat.beq c len=true from h)]
theorem Qo (hT:jf P T N) {I:fK} {ρ:Pl} {m:Id->Option Ob} {w:World} (hw:dY T N I ρ m w) {id:Id} {n i len:Nat} {cap:Option Nat} {y:Value} {B:zI} (hm:m id=some (.cells B)) (hB:B.n=n) (hx:dU T N I ρ (.own id n i len cap) y)
 (e:∀ j,j<len->fE (B.get (i+j))=true) :
 ∃ d,iK I d/\Ev I ρ w d ρ w/\dY T N d ρ (uy m id (.cells { B with fz:=max B.fz (i+len) })) w/\dU T N d iG (.row B.ty (OJ len cap) len (λj=>B.get (i+j))) y:=by
 rcases Rep.own_inv hx with ⟨rfl,rfl,rfl,rfl⟩ | ⟨q,f,hn,hx⟩
 ·refine ⟨I,iK.refl _,Ev.refl _ _ _,?_,[_],.row0 (hw.ty_lt hm),rfl⟩;have:({ B with fz:=max B.fz (0+0) }:zI)=B:=by simp
  rw [this,Uo hm];exact hw
 ·obtain ⟨q',cs,c1,c2,c3,c4,c5,c6,c7,l,c9,g⟩:=hw.cellsAt hm f;rw [f]at c1;cases c1;obtain ⟨c,rfl,g1,t,g3,g4,g5,u⟩:=hx (by rw [c3,hB]);obtain ⟨f1,f2,s⟩:=hw.freeze hm f c5 (k:=i+len) (by omega);refine ⟨_,f1,f2,s,[_],?_,rfl⟩;have hex:∀ k,∃ seg,k<len->Rep T N I ρ (B.get (i+k)) seg/\fit T B.ty (B.get (i+k))=true/\seg.length=(T B.ty).size /\ ∀ o,o<(T B.ty).size->cs[(i+k)*(T B.ty).size+o]? = seg[o]? := by
   intro k;by_cases hk:k<len
   ·obtain ⟨seg,z⟩:=l (i+k) (by omega);exact ⟨seg,λ_=>z⟩
   ·exact ⟨[],λh=>absurd h hk⟩
  have a:=λk=>adt (hex k);refine .row q.b (i*(T q.ty).size) c (λk=>Classical.choose (hex k)) c4 g1 t (λh=>u _ (OI h)) (λk hk=>(((a k hk).1.fE (e k hk) iG).mono f1 (iJ.refl _))) (λk hk=>(a k hk).2.1) (λk hk=>(a k hk).2.2.1) (λk hk o x=>?_);have v:=(a k hk).2.2.2 o x
  rw [<- v,c2];have p:i*(T B.ty).size+(k*(T B.ty).size+o)=(i+k)*(T B.ty).size+o:=by rw [adD];omega
  have r:(i+k+1)*(T B.ty).size<=(i+len)*(T B.ty).size:=ab7 _ (by omega);rw [adK]at r;unfold addN;rw [p,aaU ⟨rfl,by omega⟩];simp
theorem jq {ids:List Id} {id:Id}:gX ids id=true↔id∈ids:=by
 simp only [gX,List.any_eq_true];constructor
 ·rintro ⟨a,b,c⟩;rw [OD c];exact b
 intro h;exact ⟨id,h,aU id⟩
theorem uh:∀ {ids:List Id},distinct ids=true->ids.Nodup
 | [],_=>List.nodup_nil
 | a::r,h=>by simp only [distinct,abe,aeK]at h;rw [List.nodup_cons];refine ⟨λhm=>?_,uh h.2⟩;have b:=h.1;rw [jq.2 hm]at b;cases b
theorem Gq:∀ (ids:List Id) (k:Nat) {id:Id},id∈ids -> ∃ j,ids[j]? = some id/\sig ids k id = .b (k+j)
 | [],_,_,h=>by cases h
 | a::r,k,id,h=>by by_cases e:id=a;{subst e;exact ⟨0,rfl,by simp [sig,aU]⟩};(have c:id∈r:=by cases h with | head=>exact absurd rfl e | tail _ h=>exact h);obtain ⟨j,d,f⟩:=Gq r (k+1) c;exact ⟨j+1,by simpa using d,by simp only [sig,tZ e,ads,f];congr 1;omega⟩
theorem JH {α:Type} {l:List α} (h:l.Nodup) {i j:Nat} {a:α} (hi:l[i]? = some a) (c:l[j]? = some a):i=j:=by
 have b:=(List.getElem?_eq_some_iff.1 hi).1;exact (List.getElem?_inj b h).1 (hi.trans c.symm)
theorem DF {ids:List Id} (h:ids.Nodup) {j:Nat} {id:Id} (a:ids[j]? = some id):sig ids 0 id = .b j:=by
 obtain ⟨i,c,d⟩:=Gq ids 0 (ac8 a);rw [d,acY,JH h c a]
theorem abd {ids:List Id} {j:Nat} {id:Id} (a:ids[j]? = some id):Ug ids (.b j)=id:=by simp [Ug,aaT,a]
theorem YX {n:Nat} {id:Id}:gX (bs n) id=true ↔ ∃ j,j<n/\id = .b j:=by
 rw [jq];simp only [bs,List.mem_map,adE];constructor
 ·rintro ⟨j,a,rfl⟩;exact ⟨j,a,rfl⟩
 rintro ⟨j,a,rfl⟩;exact ⟨j,a,rfl⟩
theorem Js {d:Nat}:∀ {j k:Nat} {id:Id},id∈sites d j k ↔ ∃ i,j<=i/\i<j+k/\id = .s d i
 | j,0,id=>by simp [sites];omega
 | j,k+1,id=>by simp only [sites,adZ,Js (j:=j+1)];constructor;{rintro (rfl | ⟨i,a,b,rfl⟩);{exact ⟨j,by omega,by omega,rfl⟩};exact ⟨i,by omega,by omega,rfl⟩};rintro ⟨i,a,b,rfl⟩;by_cases e:i=j;{subst e;exact .inl rfl};exact .inr ⟨i,by omega,by omega,rfl⟩
theorem Es (d:Nat):∀ (j k:Nat),(sites d j k).Nodup
 | _,0=>List.nodup_nil
 | j,k+1=>by simp only [sites,List.nodup_cons];refine ⟨λh=>?_,Es d (j+1) k⟩;obtain ⟨i,b,c,a⟩:=Js.1 h;cases a;omega
theorem BK (d:Nat):∀ (j k:Nat),(sites d j k).length=k
 | _,0=>rfl
 | j,k+1=>by simp [sites,BK d (j+1) k]
theorem EW (m:Id->Option Ob):∀ (a b:List (Id×Ob)),iP m (a++b)=iP (iP m a) b:=by
 intro a;induction a generalizing m with| nil=>intro b;rfl| cons x a c=>intro b;simp only [List.cons_append,iP,c]
theorem qy {m:Id->Option Ob} {ids:List Id} {os:List Ob} {id:Id} (h:id∉ids):iP m (ids.zip os) id=m id:=by
 induction ids generalizing m os with| nil=>rfl| cons a r b=>(cases os with| nil=>rfl| cons o os=>simp only [adZ,not_or]at h;simp only [List.zip_cons_cons,iP];rw [b h.2,iI _ _ h.1])
theorem Dn {ids:List Id} (hn:ids.Nodup):∀ {m:Id->Option Ob} {os:List Ob} {j:Nat} {id:Id} {o:Ob},ids[j]? = some id->os[j]? = some o->iP m (ids.zip os) id=some o:=by
 induction ids with| nil=>intro m os j id o h;simp at h| cons a r d=>intro m os j id o c b;rw [List.nodup_cons]at hn;(cases os with| nil=>simp at b| cons e os=>simp only [List.zip_cons_cons,iP];(cases j with| zero=>simp at c b;subst c b;rw [qy hn.1,eY]| succ j=>exact d hn.2 (by simpa using c) (by simpa using b)))
theorem zT {m:Id->Option Ob}:∀ {ids:List Id} {B:List Ob},gets m ids=some B->B.length=ids.length /\ ∀ (j:Nat) (id:Id),ids[j]? = some id -> ∃ o,B[j]? = some o/\m id=some o
 | [],B,h=>by cases h;exact ⟨rfl,λj id h=>by simp at h⟩
 | i::r,B,h=>by simp only [gets,aaC,abf]at h;obtain ⟨o,b,l,c,rfl⟩:=h;obtain ⟨d,e⟩:=zT c;refine ⟨by simp [d],λj id a=>?_⟩;cases j with| zero=>simp at a;subst a;exact ⟨o,rfl,b⟩| succ j=>simpa using e j id (by simpa using a)
theorem Cj {ids:List Id}:∀ {l:List Ob} {j:Nat} {o:Ob},kU ids l->l[j]? = some o->okO ids o
 | [],_,_,_,h=>by simp at h
 | x::r,j,o,h,hj=>by cases j with| zero=>simp at hj;subst hj;exact h.1| succ j=>exact Cj h.2 (by simpa using hj)
def rH (ids:List Id) (ρ:Pl):Pl:=λid=>match id with
 | .b j=>(ids[j]?).bind ρ
 | .s _ _=>none
theorem D9 {ids:List Id} (h:ids.Nodup) (ρ:Pl):∀ id,gX ids id=true->rH ids ρ (sig ids 0 id)=ρ id:=by
 intro id hi;obtain ⟨j,a,b⟩:=Gq ids 0 (jq.1 hi);rw [b,acY];simp [rH,a]
theorem qR {ids:List Id} {ρ:Pl} {id:Id} {p:Place} (h:rH ids ρ id=some p):∃ j a,id = .b j/\ids[j]? = some a/\ρ a=some p:=by
 cases id with| b j=>simp only [rH,aaC]at h;obtain ⟨a,c,d⟩:=h;exact ⟨j,a,rfl,c,d⟩| s k i=>(cases h)
theorem Jk {I:fK} {ρ:Pl} {m:Id->Option Ob} {w:World} (hw:dY T N I ρ m w) {ids:List Id} {B:List Ob} (hd:ids.Nodup) (hB:gets m ids=some B) (t:kU ids B) :
 dY T N I (rH ids ρ) (yL (B.map (fG (sig ids 0)))) w:=by
 obtain ⟨hl,hg⟩:=zT hB;have n:=D9 hd ρ
 have r:∀ (id:Id) (o:Ob),yL (B.map (fG (sig ids 0))) id=some o -> ∃ j a g,id = .b j/\ids[j]? = some a/\B[j]? = some g/\m a=some g/\o=fG (sig ids 0) g:=by
  intro id o h;cases id with
  | s k i=>cases h
  | b j =>
   simp only [yL,ady,ade]at h;obtain ⟨g,c,l⟩:=h;have hj:j<ids.length:=by rw [<- hl];exact (List.getElem?_eq_some_iff.1 c).1
   obtain ⟨b4,f,d⟩:=hg j ids[j] (aaR hj);rw [c]at f;cases f;exact ⟨j,ids[j],g,rfl,aaR hj,c,d,l.symm⟩
 refine ⟨?_,?_,?_,?_,hw.imm,hw.gl⟩
 ·intro id A hA;obtain ⟨j,a,g,rfl,c,l,f,d⟩:=r id _ hA;have hok':=Cj t l
  cases g with
  | map es=>cases d
  | cells B0 =>
   simp only [fG,Ob.cells.injEq]at d;subst d;rcases hw.cells a B0 f with ⟨h,h'⟩ | ⟨p,ds,u,x,y,z,d5,d6,d7,d8,d9,d10⟩
   ·exact .inl ⟨by simp [rH,c,h],h'⟩
   ·refine .inr ⟨p,ds,by simp [rH,c,u],x,y,z,d5,d6,d7,λi hi=>?_,d9,d10⟩;obtain ⟨seg,e1,e2,e3,e4⟩:=d8 i hi;exact ⟨seg,e1.ren n (hok' i hi),by simp only;rw [xY];exact e2,e3,e4⟩
 ·intro id es hA;obtain ⟨j,a,g,rfl,c,l,f,d⟩:=r id _ hA;have hok':=Cj t l
  cases g with
  | cells B0=>cases d
  | map es0 =>
   simp only [fG,Ob.map.injEq]at d;subst d;obtain ⟨p,en,cl,u,x,y,z,d5,d6⟩:=hw.maps a es0 f;refine ⟨p,en,cl,by simp [rH,c,u],x,y,by simpa using z,d5,λi k v hi=>?_⟩;simp only [ady,ade,adJ]at hi;obtain ⟨⟨k0,v0⟩,h5,rfl,rfl⟩:=hi;obtain ⟨e,e1,e2,e3⟩:=d6 i k0 v0 h5;have:=hok' _ (ac8 h5)
   exact ⟨e,e1,e2.ren n this.1,e3.ren n this.2⟩
 ·intro id p hp;obtain ⟨j,a,rfl,c,l⟩:=qR hp;obtain ⟨o,f,d⟩:=hg j a c;simp [yL,f]
 ·intro i j p q hp hq e;obtain ⟨i',a,rfl,c,l⟩:=qR hp;obtain ⟨j',b,rfl,f,d⟩:=qR hq;have:=hw.inj a b p q l d e
  subst this;rw [JH hd c f]
end
section
variable {P:Program} {T:Nat->TI} {N:Nat}
def Ak (all:List Id) (ρ ρ':Pl):Pl:=λid=>if gX all id=true then ρ' (sig all 0 id)else ρ id
theorem qx {all:List Id} (hn:all.Nodup) (ρ ρ':Pl) {j:Nat} {id:Id} (h:all[j]? = some id):Ak all ρ ρ' id=ρ' (.b j):=by
 unfold Ak;rw [aaU (jq.2 (ac8 h)),DF hn h]
theorem mQ {all:List Id} (ρ ρ':Pl) {id:Id} (h:id∉all):Ak all ρ ρ' id=ρ id:=by
 unfold Ak;rw [Y0 (λe=>h (jq.1 e))]
theorem Jl {I I':fK} {ρ ρ':Pl} {m:Id->Option Ob} {w w':World} (hw:dY T N I ρ m w) {ids news:List Id} {out:List Ob} (hn:(ids++news).Nodup) (b7:∀ id∈news,m id=none) (hl:out.length=(ids++news).length)
 (c6:∀ id∈ids,m id≠none)
 (f:Ev I (rH ids ρ) w I' ρ' w') (x:dY T N I' ρ' (yL out) w') (b8:kU (bs out.length) out) :
 Ev I ρ w I' (Ak (ids++news) ρ ρ') w'/\dY T N I' (Ak (ids++news) ρ ρ') (iP m ((ids++news).zip (out.map (fG (Ug (ids++news)))))) w' /\
  (∀ id,gX (bs out.length) id=true->Ak (ids++news) ρ ρ' (Ug (ids++news) id)=ρ' id):=by
 have a2:∀ id,gX (bs out.length) id=true->Ak (ids++news) ρ ρ' (Ug (ids++news) id)=ρ' id:=by
  intro id h;obtain ⟨j,l,rfl⟩:=YX.1 h;have r:(ids++news)[j]? = some ((ids++news)[j]'(by omega)):=aaR _
  rw [abd r,qx hn _ _ r]
 have b3:∀ a p,a∈ids->ρ a=some p -> ∃ j,(ids++news)[j]? = some a/\rH ids ρ (.b j)=some p:=by
  intro a p d hp;obtain ⟨j,g⟩:=adw d;have n:j<ids.length:=(List.getElem?_eq_some_iff.1 g).1
  exact ⟨j,by rw [ac6 n];exact g,by simp [rH,g,hp]⟩
 have b4:∀ a p,a∈news->ρ a=some p->False:=λa p d hp=>hw.dom a p hp (b7 a d);have a1:iJ ρ (Ak (ids++news) ρ ρ'):=by
  intro a p hp;by_cases d:a∈ids++news
  ·rcases List.mem_append.1 d with h | h
   ·obtain ⟨j,l,r⟩:=b3 a p h hp;rw [qx hn _ _ l];exact f.pl _ _ r
   ·exact (b4 a p h hp).elim
  ·exact ⟨p,by rw [mQ _ _ d];exact hp,aa3 _,λ_=>rfl⟩
 have a3:∀ a p,a∉ids++news->ρ a=some p -> ∀ id p',rH ids ρ id=some p'->p'.b≠p.b:=by
  intro a p d hp id p' h e;obtain ⟨j,a',rfl,l,r⟩:=qR h;have:=hw.inj a' a p' p r hp e
  subst this;exact d (ad3 _ (ac8 l))
 have a4:∀ id p',ρ' id=some p'->(∃ a p,a∈ids/\ρ a=some p/\p.b=p'.b)\/w.heap.size<=p'.b:=by
  intro id p' h;rcases f.plN id p' h with ⟨id0,p,l,r⟩ | l
  ·obtain ⟨j,a,rfl,h3,h4⟩:=qR l;exact .inl ⟨a,p,ac8 h3,h4,r⟩
  ·exact .inr l
 have u:∀ b,b<w.heap.size->(∀ id p,rH ids ρ id=some p->p.b≠b)->w'.heap[b]? = w.heap[b]? := f.frame;refine ⟨⟨f.imm,?_,a1,?_,?_,f.size,f.os,f.output,f.tape⟩,⟨?_,?_,?_,?_,x.imm,x.gl⟩,a2⟩
 ·intro b o h h';rcases f.immN b o h h' with ⟨id,p,l,r⟩ | l
  ·obtain ⟨j,a,rfl,h3,h4⟩:=qR l;exact .inl ⟨a,p,h4,r⟩
  ·exact .inr l
 ·intro a p' h;by_cases d:a∈ids++news
  ·obtain ⟨j,g⟩:=adw d;rw [qx hn _ _ g]at h;rcases a4 _ _ h with ⟨a0,p,_,l,r⟩ | l
   ·exact .inl ⟨a0,p,l,r⟩
   ·exact .inr l
  ·rw [mQ _ _ d]at h;exact .inl ⟨a,p',h,rfl⟩
 ·intro b hb c3;refine u b hb (λid p h=>?_);obtain ⟨j,a,rfl,h3,h4⟩:=qR h;exact c3 a p h4
 ·intro a A hA;by_cases d:a∈ids++news
  ·obtain ⟨j,g⟩:=adw d;have n:j<out.length:=by rw [hl];exact (List.getElem?_eq_some_iff.1 g).1
   rw [Dn hn g (o:=fG (Ug (ids++news)) out[j]) (by simp [n])]at hA;have s:yL out (.b j)=some out[j]:=by simp [yL,n]
   have hok':=Cj b8 (aaR n);revert hA s hok';cases out[j]with
   | map es=>intro hA;cases hA
   | cells B0 =>
    intro hA s hok';simp only [fG,abf,Ob.cells.injEq]at hA;subst hA;rcases x.cells (.b j) B0 s with ⟨h,h'⟩ | ⟨p,ds,t,d2,d3,d4,d5,d6,d7,d8,d9,d10⟩
    ·exact .inl ⟨by rw [qx hn _ _ g];exact h,h'⟩
    ·refine .inr ⟨p,ds,by rw [qx hn _ _ g];exact t,d2,d3,d4,d5,d6,d7,λi hi=>?_,d9,d10⟩;obtain ⟨seg,e1,e2,e3,e4⟩:=d8 i hi;exact ⟨seg,e1.ren a2 (hok' i hi),by simp only;rw [xY];exact e2,e3,e4⟩
  ·rw [qy d]at hA;rcases hw.cells a A hA with ⟨h,h'⟩ | ⟨p,ds,t,d2,d3,d4,d5,d6,d7,d8,d9,d10⟩
   ·exact .inl ⟨by rw [mQ _ _ d];exact h,h'⟩
   ·have hp:=hw.place_lt t;have hf:=a3 a p d t
    refine .inr ⟨p,ds,by rw [mQ _ _ d];exact t,d2,d3,d4,by rw [u _ hp hf];exact d5,d6,d7,λi hi=>?_,λj g=>d9 j (λe=>?_),d10⟩
    ·obtain ⟨seg,e1,e2,e3,e4⟩:=d8 i hi;exact ⟨seg,e1.mono f.imm a1,e2,e3,e4⟩
    ·rcases f.immN _ _ e g with ⟨id,p',l,r⟩ | l
     ·exact hf id p' l r
     ·omega
 ·intro a es hA;by_cases d:a∈ids++news
  ·obtain ⟨j,g⟩:=adw d;have n:j<out.length:=by rw [hl];exact (List.getElem?_eq_some_iff.1 g).1
   rw [Dn hn g (o:=fG (Ug (ids++news)) out[j]) (by simp [n])]at hA;have s:yL out (.b j)=some out[j]:=by simp [yL,n]
   have hok':=Cj b8 (aaR n);revert hA s hok';cases out[j]with
   | cells B0=>intro hA;cases hA
   | map es0 =>
    intro hA s hok';simp only [fG,abf,Ob.map.injEq]at hA;subst hA;obtain ⟨p,en,cl,t,d2,d3,d4,d5,d6⟩:=x.maps (.b j) es0 s;refine ⟨p,en,cl,by rw [qx hn _ _ g];exact t,d2,d3,by simpa using d4,d5,λi k v hi=>?_⟩;simp only [ady,ade,adJ]at hi;obtain ⟨⟨k0,v0⟩,h5,rfl,rfl⟩:=hi;obtain ⟨e,e1,e2,e3⟩:=d6 i k0 v0 h5;have:=hok' _ (ac8 h5)
    exact ⟨e,e1,e2.ren a2 this.1,e3.ren a2 this.2⟩
  ·rw [qy d]at hA;obtain ⟨p,en,cl,t,d2,d3,d4,d5,d6⟩:=hw.maps a es hA;have hp:=hw.place_lt t
   have hf:=a3 a p d t;refine ⟨p,en,cl,by rw [mQ _ _ d];exact t,d2,by rw [u _ hp hf];exact d3,d4,λj=>?_,λi k v hi=>?_⟩
   ·cases g:I' p.b j with
    | none=>rfl
    | some y =>
     rcases f.immN _ _ (d5 j) (by rw [g];simp)with ⟨id,p',l,r⟩ | l
     ·exact (hf id p' l r).elim
     ·omega
   ·obtain ⟨e,e1,e2,e3⟩:=d6 i k v hi;exact ⟨e,e1,e2.mono f.imm a1,e3.mono f.imm a1⟩
 ·intro a p h;by_cases d:a∈ids++news
  ·obtain ⟨j,g⟩:=adw d;have n:j<out.length:=by rw [hl];exact (List.getElem?_eq_some_iff.1 g).1
   rw [Dn hn g (o:=fG (Ug (ids++news)) out[j]) (by simp [n])];simp
  ·rw [mQ _ _ d]at h;rw [qy d];exact hw.dom a p h
 ·intro a c p q hp z e;have key:∀ (a c:Id) (p q:Place),a∈ids++news->c∉ids++news->Ak (ids++news) ρ ρ' a=some p->ρ c=some q->p.b=q.b->False:=by
   intro a c p q d hc hp z e;obtain ⟨j,g⟩:=adw d;rw [qx hn _ _ g]at hp;rcases a4 _ _ hp with ⟨a0,p0,h0,l,r⟩ | l
   ·have:=hw.inj a0 c p0 q l z (r.trans e);subst this;exact hc (ad3 _ h0)
   ·have:=hw.place_lt z;omega
  by_cases d:a∈ids++news
  ·by_cases hc:c∈ids++news
   ·obtain ⟨j,g⟩:=adw d;obtain ⟨k,hk⟩:=adw hc;rw [qx hn _ _ g]at hp;rw [qx hn _ _ hk]at z;have:=x.inj _ _ p q hp z e
    cases this;rw [g]at hk;cases hk;rfl
   ·rw [mQ _ _ hc]at z;exact (key a c p q d hc hp z e).elim
  ·by_cases hc:c∈ids++news
   ·rw [mQ _ _ d]at hp;exact (key c a q p hc d z hp e.symm).elim
   ·rw [mQ _ _ d]at hp;rw [mQ _ _ hc]at z;exact hw.inj a c p q hp z e
theorem MG (hT:jf P T N) {I:fK} {ρ:Pl} {m:Id->Option Ob} {w:World} (hw:dY T N I ρ m w) {ids:List Id} (hd:ids.Nodup) {x:AV} {y:Value} {r:AV×List (Id×Ob)×Option Prop} (hx:gB T N I ρ x y) (h:Jo ids m x=some r) (hc:ay r.2.2) :
 ∃ b,iK I b/\Ev I ρ w b ρ w/\dY T N b ρ (iP m r.2.1) w/\gB T N b (rH ids ρ) r.1 y:=by
 unfold Jo at h;split at h
 ·rename_i id n i len cap;by_cases hi:gX ids id=true
  ·rw [hi]at h;cases h;have:=hx.ren (D9 hd ρ) (show fH ids (.own id n i len cap)=true from hi)
   exact ⟨I,iK.refl _,Ev.refl _ _ _,hw,this⟩
  ·have c:gX ids id=false:=by simpa using hi
   rw [c]at h;simp only [ads]at h;split at h
   ·rename_i B hm;have a:(λj=>B.get (j+i))=λj=>B.get (i+j):=funext λj=>by rw [aea]
    cases h;simp only [ay]at hc;obtain ⟨b,e,f,g,d⟩:=Qo hT hw hm hc.1 (hx.rep1 (λ_=>by simp)) (λj k=>(show fE (B.get (i+j))=true from aea j i▸hc.2 j k));rw [<- a]at d;exact ⟨b,e,f,g,.one (d.mono (iK.refl _) (FP _))⟩
   ·cases h
 ·cases h
 ·obtain ⟨hb,h⟩:=aB h;cases h;exact ⟨I,iK.refl _,Ev.refl _ _ _,hw,hx.ren (D9 hd ρ) hb⟩
theorem yN (hT:jf P T N) {ρ:Pl} {w:World} {ids:List Id} (hd:ids.Nodup):∀ (xs:List AV) (ys:List Value) {I:fK} {m:Id->Option Ob} (r:List AV×List (Id×Ob)×Option Prop),dY T N I ρ m w->ys.length=xs.length ->
 (∀ (i:Nat) (x:AV) (y:Value),xs[i]? = some x->ys[i]? = some y->gB T N I ρ x y)->Em ids m xs=some r->ay r.2.2 ->
 ∃ b,iK I b/\Ev I ρ w b ρ w/\dY T N b ρ (iP m r.2.1) w/\r.1.length=xs.length/\(∀ (i:Nat) (x:AV) (y:Value),r.1[i]? = some x->ys[i]? = some y->gB T N b (rH ids ρ) x y)
 | [],ys,I,m,r,hw,_,_,h,_=>by cases h;exact ⟨I,iK.refl _,Ev.refl _ _ _,hw,rfl,λi x y hi=>by simp at hi⟩
 | x::xs,[],I,m,r,hw,hl,_,_,_=>by simp at hl
 | x::xs,y::ys,I,m,r,hw,hl,hr,h,hc=>by simp only [Em,aaC,abf]at h;obtain ⟨a,o,l,p,rfl⟩:=h;rw [aI]at hc;obtain ⟨b,g1,j,k,n⟩:=MG hT hw hd (hr 0 x y rfl rfl) o hc.1;obtain ⟨g,f,q,s,t,u⟩:=yN hT hd xs ys l k (by simpa using hl) (λi x' e c d=>(hr (i+1) x' e (by simpa using c) (by simpa using d)).mono g1 (iJ.refl _)) p hc.2;refine ⟨g,g1.trans f,j.trans q,by simp only;rw [EW];exact s,by simp [t],λi x' e c d=>?_⟩;cases i with| zero=>simp at c d;subst c d;exact n.mono f (iJ.refl _)| succ i=>exact u i x' e (by simpa using c) (by simpa using d)
end
section
variable {P:Program} {T:Nat->TI} {N:Nat}
def aaE (P:Program) (T:Nat->TI) (N:Nat) (I:fK) (ρ:Pl) (m:Id->Option Ob) (r:R) (run:World->Result Next) (w:World):Prop :=
 ∃ f vs,run w = .ok (.enter f vs) w/\Calls P f vs w λe w' => ∃ v I' ρ',e = .returned v/\Ev I ρ w I' ρ' w'/\gB T N I' ρ' r.v v/\dY T N I' ρ' (iP m r.d) w'
theorem Gx {a:Act} {o:Oper} {c:Call} {g:Operand} {f:FuncId} {ys:Array Value} (d:o.op = .call c) (hc:c.callee = .value g) (hf:a.eval g = .func (.func f) #[] ys) (b:callable P f) (w:World) :
 (execOp a.eval o).run P w = .ok (.enter f ((c.args.map a.eval)++ys)) w:=by
 obtain ⟨fn,j,k,h⟩:=b;have i:fn.body.isNone=false:=by cases hb:fn.body with| none=>(rw [hb]at h;cases h)| some _=>rfl
 have l:¬ fn.name = "runtime.NumGoroutine" := by simpa using k
 have m:¬ fn.body=none:=by intro e;rw [e]at i;cases i
 simp [execOp,d,resolve,hc,hf,Deferred.ofValue,invoke,callFunc,j,l,m]
theorem dU.clo_inv {I:fK} {ρ:Pl} {f:FuncId} {caps:List AV} {y:Value} (h:dU T N I ρ (.clo f caps) y):∃ ys:Array Value,y = .func (.func f) #[] ys/\ys.size=caps.length /\ ∀ (i:Nat) (c:AV),caps[i]? = some c->Rep T N I ρ c [ys.getD i undef]:=by
 obtain ⟨cs,a,b⟩:=h;cases a with| clo ys hl h=>exact ⟨ys,b,hl,h⟩
theorem Rep.one_packed {I:fK} {ρ:Pl} {x:AV} {y:Value} (h:Rep T N I ρ x [y]) (hx:∀ t n g,x ≠ .agg t n g):dU T N I ρ x y:=by
 refine ⟨[y],h,?_⟩;unfold fF;split
 ·exact absurd rfl (hx _ _ _)
 rfl
theorem IZ {I:fK} {ρ:Pl} {k:Entry} {st:St} {a:Act} {w:World} (p:gJ T N k I ρ st a w) {G:D} (o:G.tr) {c:Call} {l:List AV×Option Prop} (h:needs G st c.args.toList=some l) (hc:ay l.2) {caps:List AV} {ys:Array Value}
 (hl:ys.size=caps.length) (d:∀ (i:Nat) (c:AV),caps[i]? = some c->Rep T N I ρ c [ys.getD i undef]) (e:∀ c∈caps,∀ t n g,c ≠ .agg t n g) :
 ((c.args.map a.eval)++ys).toList.length=(l.1++caps).length /\ ∀ (i:Nat) (x:AV) (y:Value),(l.1++caps)[i]? = some x->((c.args.map a.eval)++ys).toList[i]? = some y->gB T N I ρ x y:=by
 obtain ⟨j,m⟩:=tq p o h hc;have hsz:(c.args.map a.eval).toList.length=l.1.length:=by simp [j]
 refine ⟨by simp [j,hl],λi x y hx b=>?_⟩;rw [Array.toList_append]at b;rcases ado i l.1.length with hi | hi
 ·rw [ac6 hi]at hx;rw [ac6 (by omega)]at b;simp only [aev,ady,ade]at b;obtain ⟨z,q,rfl⟩:=b;exact m i z x q hx
 ·rw [adi hi]at hx;rw [adi (by omega),hsz]at b;have:=d _ _ hx
  have f:ys.getD (i - l.1.length) undef=y:=by
   simp only [adn]at b;simp [b]
  rw [f]at this;exact .one (this.one_packed (e _ (ac8 hx)))
theorem DX {caps:List AV} (h:caps.all Qr=true):∀ c∈caps,∀ t n g,c ≠ .agg t n g:=by
 rintro c hc t n g rfl;have:=List.all_eq_true.1 h _ hc;cases this
theorem Rk {m:Id->Option Ob} {l:List Id} (h:l.all (λid=>isNone (m id))=true):∀ id∈l,m id=none:=λid hi=>lI (List.all_eq_true.1 h id hi)
theorem Vu (hT:jf P T N) {en:Entry} {I:fK} {ρ:Pl} {st:St} {a:Act} {w:World} (hs:gJ T N en I ρ st a w) {G:D} (s:G.tr) {gs:List CG} {o:Oper} {r:R×List CG}
 (h:evK T (AC P T N) st G gs o=some r) (hc:ay r.1.c):aaE P T N I ρ st.m r.1 (λw=>(execOp a.eval o).run P w) w:=by
 have hw:=hs.wr;unfold evK at h;split at h
 ·rename_i c g e5 a0;split at h
  ·rename_i fo n;simp only [aaC]at h;obtain ⟨fa,h1,l,h2,h⟩:=h;split at h
   ·
     rename_i f caps p z;simp only [aaC]at h;obtain ⟨fz,h3,h⟩:=h;obtain ⟨hb,h⟩:=aB h;cases h;simp only [abe]at hb;rw [aI,aI,aI]at hc;obtain ⟨k1,k2,k3,k4⟩:=hc;have d:=nG s k4
     have d5:ay fz.2.1:=by
      revert k3;cases fz.2.1 with
      | none=>intro _;trivial
      | some q=>intro k3;exact nG s k3
     have i:=bn hs s h1 k1;rw [p]at i;obtain ⟨ys,e1,e2,e3⟩:=(i.rep1 (λ_=>by simp)).clo_inv;obtain ⟨a1,a2⟩:=IZ hs s h2 k2 e2 e3 (DX hb.2);obtain ⟨z1,z2⟩:=Ii hT hw _ _ fz a1 a2 h3 d5;refine ⟨f,_,Gx a0 n e1 d.1 w,?_⟩;have b:=VE hT hw d (vs:=((c.args.map a.eval)++ys).toList) (fz:=fz.2.2.1) (by rw [z1];exact a1) z2 hb.1.1 (λhf=>by
      have:=hb.1.2;rw [hf]at this;simpa using this)
     simp only [Array.toArray_toList]at b;refine b.mono ?_;rintro e w' ⟨v,I',rfl,g1,g2,g3⟩;exact ⟨v,I',ρ,rfl,g1,g2,g3⟩
   ·
     rename_i f caps p z;cases c4:Lr g with
     | true =>
      simp only [c4,adv,aaC]at h;obtain ⟨vw,h3,B,h4,h⟩:=h;obtain ⟨hb,h⟩:=aB h;cases h;simp only [abe]at hb;obtain ⟨⟨⟨b1,b2⟩,b3⟩,b5⟩:=hb;rw [aI,aI,aI]at hc;obtain ⟨k1,k2,k3,k4,k5,k6,d⟩:=hc;have i:=bn hs s h1 k1
      rw [p]at i;obtain ⟨ys,e1,e2,e3⟩:=(i.rep1 (λ_=>by simp)).clo_inv;obtain ⟨a1,a2⟩:=IZ hs s h2 k2 e2 e3 (DX b2);have hd:=uh b3
      obtain ⟨I1,v1,v2,v3,v4,v5⟩:=yN hT hd _ _ vw hw a1 a2 h3 k3;obtain ⟨gl,gg⟩:=zT h4;have k:∀ id∈g.ids,iP st.m vw.2.1 id≠none:=λid hi=>by
       obtain ⟨j,hj⟩:=adw hi;obtain ⟨ob,_,h6⟩:=gg j id hj;rw [h6];simp
      refine ⟨f,_,Gx a0 n e1 d.1 w,?_⟩;have b:=d.2 I1 (rH g.ids ρ) w ((c.args.map a.eval)++ys).toList (by rw [v4];exact a1) v5 (Jk v3 hd h4 k4)
      simp only [Array.toArray_toList]at b;refine b.mono ?_;rintro e w' ⟨v,I',ρ',rfl,g1,g2,g3⟩;have u:(B.map (fG (sig g.ids 0))).length=g.ids.length:=by rw [adF,gl]
      obtain ⟨q1,q2,q3⟩:=Jl (news:=[]) v3 (by rw [adI];exact hd) (λid hi=>by cases hi) (by rw [adI];exact u) k g1 g3 (by rw [u];exact k5);rw [u]at q3;simp only [adI]at q1 q2 q3;rw [k6]at q2;have a4:iP (iP st.m vw.2.1) (g.ids.zip B)=iP st.m vw.2.1:=by
       funext id;by_cases hi:id∈g.ids
       ·obtain ⟨j,hj⟩:=adw hi;obtain ⟨ob,h5,h6⟩:=gg j id hj;rw [Dn hd hj h5,h6]
       ·exact qy hi
      rw [a4]at q2;exact ⟨v,I',_,rfl,v2.trans q1,g2.ren q3 b5,q2⟩
     | false =>
      simp only [c4,ads]at h;simp only [aaC]at h;obtain ⟨vw,h3,B,h4,h⟩:=h;obtain ⟨hb,h⟩:=aB h;cases h;simp only [abe]at hb;obtain ⟨⟨⟨⟨⟨b1,b2⟩,b3⟩,b4⟩,b5⟩,b6⟩:=hb;rw [aI,aI,aI]at hc;obtain ⟨k1,k2,k3,k4,k5,d⟩:=hc;have i:=bn hs s h1 k1
      rw [p]at i;obtain ⟨ys,e1,e2,e3⟩:=(i.rep1 (λ_=>by simp)).clo_inv;obtain ⟨a1,a2⟩:=IZ hs s h2 k2 e2 e3 (DX b2);have hd:=uh b3
      obtain ⟨I1,v1,v2,v3,v4,v5⟩:=yN hT hd _ _ vw hw a1 a2 h3 k3;have t:=Rk b6
      obtain ⟨gl,gg⟩:=zT h4;have k:∀ id∈g.ids,iP st.m vw.2.1 id≠none:=λid hi=>by
       obtain ⟨j,hj⟩:=adw hi;obtain ⟨ob,_,h6⟩:=gg j id hj;rw [h6];simp
      have e7:g.ids.length<=g.out.length:=by simpa [Nat.ble_eq]using b4
      have hn:(g.ids++sites (o.dst.getD 0) 1 (g.out.length - g.ids.length)).Nodup:=by
       rw [List.nodup_append];exact ⟨hd,Es _ _ _,λx hx y hy e=>by subst e;exact k x hx (t x hy)⟩
      have hlen:g.out.length=(g.ids++sites (o.dst.getD 0) 1 (g.out.length - g.ids.length)).length:=by
       rw [adl,BK];omega
      refine ⟨f,_,Gx a0 n e1 d.1 w,?_⟩;have b:=d.2 I1 (rH g.ids ρ) w ((c.args.map a.eval)++ys).toList (by rw [v4];exact a1) v5 (Jk v3 hd h4 k4)
      simp only [Array.toArray_toList]at b;refine b.mono ?_;rintro e w' ⟨v,I',ρ',rfl,g1,g2,g3⟩;obtain ⟨q1,q2,q3⟩:=Jl v3 hn t hlen k g1 g3 k5;refine ⟨v,I',_,rfl,v2.trans q1,g2.ren q3 b5,?_⟩;rw [EW];exact q2
   ·cases h
  ·cases h
 ·cases h
end
section
variable {P:Program} {T:Nat->TI} {N:Nat}
def VI (x:Option Int) (y:Option Value):Prop:=match x,y with
 | none,none=>True
 | some j,some v => ∃ k,v = .int k j
 | _,_=>False
theorem AQ {e:Entry} {I:fK} {ρ:Pl} {st:St} {a:Act} {w:World} (i:gJ T N e I ρ st a w) {G:D} (g:G.tr) {x:Option Operand} {r:Option Int×Option Prop} (h:Oi G st x=some r) (hc:ay r.2):VI r.1 (x.map a.eval):=by
 cases x with| none=>cases h;trivial| some x=>simp only [Oi,aaC,abf]at h;obtain ⟨b,f,j,c,rfl⟩:=h;have d:=bn i g f hc;unfold acD at c;split at c;{rename_i k j' hb;cases c;rw [hb]at d;exact ⟨k,d.v.1⟩};(cases c)
theorem sU {k:IntKind} {j:Int} {y:Nat} {c:BoundsCode} (w:World) (h:0<=j/\j<=y):(Instr.sliceBound (.int k j) y c).run P w = .ok j.toNat w:=by
 simp [Instr.sliceBound,asIntOf,h]
def kC (a:Option Int) (cap:Nat):Nat:=match a with | some q=>q.toNat | none=>cap
theorem yX {lo hi a:Option Int} {len cap:Nat} (b:len<=cap) (h:qL (qF lo hi a len) len):kC a cap<=cap/\(hi.getD len).toNat<=kC a cap:=by
 simp only [qL,qF]at h;cases a with| none=>simp only [Option.getD_none]at h;simp only [kC];omega| some q=>simp only [adx]at h;simp only [kC];omega
theorem Gy {b:Bool} {len cap:Nat} (u:len<=cap) {lo hi o:Option Int} {a d e:Option Value} (hl:VI lo a) (i:VI hi d) (hm:VI o e) (r:(Ac o || !Ac hi)=true) (n:qL (qF lo hi o len) len) (w:World) :
 (Instr.sliceBounds b len cap a d e).run P w = .ok ((lo.getD 0).toNat,(hi.getD len).toNat,kC o cap) w:=by
 simp only [qL,qF]at n;obtain ⟨f,h,p,t⟩:=n;cases o with
 | none =>
  cases e with
  | some v=>exact hm.elim
  | none =>
   simp only [Option.getD_none]at p t;cases hi with
   | none =>
    cases d with
    | some v=>exact i.elim
    | none =>
     cases lo with
     | none =>
      cases a with
      | some v=>exact hl.elim
      | none=>simp [kC,Instr.sliceBounds]
     | some l =>
      cases a with
      | none=>exact hl.elim
      | some v =>
       obtain ⟨k,rfl⟩:=hl;simp only [adx,Option.getD_none]at f h;have hb:=sU (P:=P) (k:=k) (c := .sliceB) w (y:=len) ⟨f,h⟩
       simp [kC,Instr.sliceBounds,hb]
   | some hv =>
    cases d with
    | none=>exact i.elim
    | some v =>
     obtain ⟨k,rfl⟩:=i;simp only [adx]at h p;have hb:∀ c,(Instr.sliceBound (.int k hv) cap c).run P w = .ok hv.toNat w:=λc=>sU w ⟨by omega,by omega⟩
     cases lo with
     | none =>
      cases a with
      | some v=>exact hl.elim
      | none=>simp [kC,Instr.sliceBounds,hb]
     | some l =>
      cases a with
      | none=>exact hl.elim
      | some v =>
       obtain ⟨s,rfl⟩:=hl;simp only [adx]at f h;have g:=sU (P:=P) (k:=s) (c := .sliceB) w (y:=hv.toNat) (j:=l) ⟨f,by omega⟩
       simp [kC,Instr.sliceBounds,hb,g]
 | some q =>
  cases e with
  | none=>exact hm.elim
  | some v =>
   obtain ⟨x,rfl⟩:=hm;simp only [adx]at p t;cases hi with
   | none=>cases r
   | some hv =>
    cases d with
    | none=>exact i.elim
    | some v =>
     obtain ⟨k,rfl⟩:=i;simp only [adx]at h p;have z:0<=lo.getD 0:=f
     have m:∀ c,(Instr.sliceBound (.int x q) cap c).run P w = .ok q.toNat w:=λc=>sU w ⟨by omega,by omega⟩;have hb:∀ c,(Instr.sliceBound (.int k hv) q.toNat c).run P w = .ok hv.toNat w:=λc=>sU w ⟨by omega,by omega⟩
     cases lo with
     | none =>
      cases a with
      | some v=>exact hl.elim
      | none=>simp [kC,Instr.sliceBounds,hb,m]
     | some l =>
      cases a with
      | none=>exact hl.elim
      | some v =>
       obtain ⟨s,rfl⟩:=hl;simp only [adx]at f h;have g:∀ c,(Instr.sliceBound (.int s l) hv.toNat c).run P w = .ok l.toNat w:=λc=>sU w ⟨f,by omega⟩
       simp [kC,Instr.sliceBounds,hb,g,m]
theorem o8 {t e:Nat} (hT:jf P T N) (hk:(T t).kind = .slice e) {b:Option Addr} {len cap:Nat} (g:len<=cap) {lo hi d:Option Int} {c a f:Option Value} (hl:VI lo c) (k:VI hi a) (hm:VI d f) (h:(Ac d || !Ac hi)=true) (i:qL (qF lo hi d len) len) (w:World) :
 (Instr.sliceAt t (.slice b len cap) c a f).run P w = .ok (.slice (if kC d cap=(lo.getD 0).toNat then b else b.map (·.add ((lo.getD 0).toNat*(T e).size))) ((hi.getD len).toNat - (lo.getD 0).toNat) (kC d cap - (lo.getD 0).toNat)) w:=by
 have j:=Gy (P:=P) (b:=true) g hl k hm h i w;simp [Instr.sliceAt,(hT.sli hk).2,Instr.slice,j,hT.runSize (hT.slice t e hk)]
theorem yw {t k e:Nat} (hT:jf P T N) (hk:(T t).kind = .array k e) {a:Addr} {lo hi f:Option Int} {d c g:Option Value} (hl:VI lo d) (l:VI hi c) (hm:VI f g) (h:(Ac f || !Ac hi)=true) (i:qL (qF lo hi f k) k) (w:World) :
 (Instr.sliceAt t (.pointer (some a)) d c g).run P w = .ok (.slice (some (if kC f k=(lo.getD 0).toNat then a else a.add ((lo.getD 0).toNat*(T e).size))) ((hi.getD k).toNat - (lo.getD 0).toNat) (kC f k - (lo.getD 0).toNat)) w:=by
 have j:=Gy (P:=P) (b:=false) (aa3 k) hl l hm h i w;simp [Instr.sliceAt,hT.arr hk,Instr.sureAddr,j,hT.runSize (hT.array t k e hk).1]
theorem Jr {lo hi a:Option Int} (h:qL (qF lo hi a ((0:Nat):Int)) ((0:Nat):Int)):(lo.getD 0).toNat=0/\(hi.getD ((0:Nat):Int)).toNat=0/\kC a 0=0:=by
 have:=yX (aa3 0) h;simp only [qL,qF]at h;omega
theorem Ul (hT:jf P T N) {I:fK} {ρ:Pl} {m:Id->Option Ob} {w:World} (hw:dY T N I ρ m w) {x:AV} {y:Value} {t:Nat} {r:AV×List Id×Prop} (hx:dU T N I ρ x y) {lo hi f:Option Int} {b8 d b9:Option Value} (hl:VI lo b8) (hh:VI hi d) (hm:VI f b9)
 (a0:(Ac f || !Ac hi)=true) (h:slA T t lo hi f m x=some r) (hc:r.2.2) (c9:ay (nP m x)) :
 ∃ u,(Instr.sliceAt t y b8 d b9).run P w = .ok u w/\gB T N I ρ r.1 u:=by
 unfold slA at h;split at h
 ·
   rename_i e full len g;split at h
   ·rename_i u hk;obtain ⟨hb,h⟩:=aB h;cases h;have e1:=abJ hb
    subst e1;simp only at hc;obtain ⟨a,b0⟩:=hc;have hok':=a
    simp only [qL,qF]at hok';obtain ⟨o1,o2,o3,o4⟩:=hok';rcases Rep.row_inv hx with ⟨⟨ad,rfl⟩,rfl,he⟩ | ⟨b,off,cap,segs,he,c8,f3,hfull,h1,h2,h3,h4,rfl⟩
    ·refine ⟨_,o8 hT hk (aa3 0) hl hh hm a0 a w,?_⟩;obtain ⟨z1,z2,z3⟩:=Jr a;have z4:((qF lo hi f ((0:Nat):Int)).2.1 - (qF lo hi f ((0:Nat):Int)).1).toNat=0:=by simp only [qF];omega
     simp only [z1,z2,z3,z4,Nat.sub_self,ad5];exact .one ⟨[_],.row0 he,rfl⟩
    ·refine ⟨_,o8 hT hk c8 hl hh hm a0 a w,?_⟩;obtain ⟨a4,a8⟩:=yX c8 a;simp only [qF];have hlen:((hi.getD (len:Int)) - (lo.getD 0)).toNat=(hi.getD (len:Int)).toNat - (lo.getD 0).toNat:=by omega
     rw [hlen];have a6:Td hi f full=true->kC f cap - (lo.getD 0).toNat=(hi.getD (len:Int)).toNat - (lo.getD 0).toNat:=by
      intro hf;cases f with
      | some q=>simp only [capEq]at b0;simp only [kC,b0]
      | none =>
       cases hi with
       | some _=>cases hf
       | none =>
        simp only [Td]at hf;simp [kC,hfull hf]
     by_cases a3:kC f cap=(lo.getD 0).toNat
     ·rw [aaU a3];exact .one ⟨[_],.row b off _ (λj=>segs ((lo.getD 0).toNat+j)) he (by omega) (by omega) a6 (λi d=>by omega) (λi d=>by omega) (λi d=>by omega) (λi d=>by omega),rfl⟩
     ·rw [Y0 a3];simp only [adU,jD];refine .one ⟨[_],.row b (off+(lo.getD 0).toNat*(T e).size) _ (λj=>segs ((lo.getD 0).toNat+j)) he (by omega) (by omega) a6 (λi d=>h1 _ (by omega)) (λi d=>h2 _ (by omega)) (λi d=>h3 _ (by omega)) (λi d o ho=>?_),rfl⟩;rw [<- h4 _ (by omega) o ho];congr 1;rw [adD];omega
   ·cases h
 ·
   rename_i id n i len cap;split at h
   ·rename_i B u a7 hk;have hb:=(aB h).1
    replace h:=(aB h).2;have e2:=abJ hb
    have e1:B.n=n:=by simpa [nP,nC,a7,ay]using c9
    have key:∀ (s:Option Nat),qL (qF lo hi f len) len->(lo.getD 0=0\/(f=none/\lo.getD 0<(len:Int))) ->
     (∀ c:Nat,(f=none->(s=none->cap=none) /\ ∀ k,s=some k -> ∃ c0,cap=some c0/\k=c0 - (lo.getD 0).toNat)/\(∀ q:Int,f=some q->s=some (q.toNat - (lo.getD 0).toNat))) ->
     ∃ u,(Instr.sliceAt t y b8 d b9).run P w = .ok u w/\gB T N I ρ (.own id n (i+(lo.getD 0).toNat) ((hi.getD len).toNat - (lo.getD 0).toNat) s) u:=by
     intro s a a9 a5;have hok':=a
     simp only [qL,qF]at hok';obtain ⟨o1,o2,o3,o4⟩:=hok';rcases Rep.own_inv hx with ⟨rfl,rfl,rfl,rfl⟩ | ⟨q,hq,hn,hx⟩
     ·refine ⟨_,o8 hT hk (aa3 0) hl hh hm a0 a w,?_⟩;obtain ⟨z1,z2,z3⟩:=Jr a;simp only [z1,z2,z3,Nat.sub_self,ad5,ad2];exact .one ⟨[_],.own0,rfl⟩
     ·obtain ⟨q',cs,c1,c2,c3,c4,_⟩:=hw.cellsAt a7 hq;rw [hq]at c1;cases c1;obtain ⟨c,rfl,g1,g2,g3,g4,g5,g6⟩:=hx (by rw [c3,e1]);obtain ⟨a4,a8⟩:=yX g1 a;refine ⟨_,o8 hT hk g1 hl hh hm a0 a w,?_⟩;have v:(if kC f c=(lo.getD 0).toNat then some (⟨q.b,i*(T q.ty).size,none⟩:Addr)else (some (⟨q.b,i*(T q.ty).size,none⟩:Addr)).map (·.add ((lo.getD 0).toNat*(T u).size)))=some ⟨q.b,(i+(lo.getD 0).toNat)*(T q.ty).size,none⟩:=by
       have hz:u=q.ty:=by rw [c2,e2]
       subst hz;split
       ·rename_i hr;rcases a9 with h0 | ⟨h0,h1⟩
        ·simp [h0]
        ·subst h0;simp only [kC]at hr;omega
       ·simp only [adU,jD,adD]
      rw [v];refine .one ⟨[_],.own q hq hn rfl (λ_=>⟨kC f c - (lo.getD 0).toNat,rfl,by omega,by omega,by omega,?_,?_,?_⟩),rfl⟩
      ·refine aej (ab7 _ ?_) g4;omega
      ·intro b3;obtain ⟨k1,k2⟩:=a5 0;cases f with
       | some q=>rw [k2 q rfl]at b3;cases b3
       | none =>
        have:=g5 ((k1 rfl).1 b3);simp only [kC]at a8 ⊢;rw [<- this];congr 1;omega
      ·intro k b4;obtain ⟨k1,k2⟩:=a5 0;cases f with
       | some q=>rw [k2 q rfl]at b4;cases b4;rfl
       | none =>
        obtain ⟨c0,h1,h2⟩:=(k1 rfl).2 k b4;simp only [kC];rw [g6 c0 h1,h2]
    split at h
    ·cases h;obtain ⟨u',h1,h2⟩:=key cap hc (.inl rfl) (λ_=>⟨λ_=>⟨λh=>h,λk hk=>⟨k,hk,by simp⟩⟩,λq h=>by cases h⟩);exact ⟨u',h1,by simpa using h2⟩
    ·rename_i q;cases h;obtain ⟨u',h1,h2⟩:=key (some q.toNat) hc (.inl rfl) (λ_=>⟨λh=>(by cases h),λq' h=>by cases h;simp⟩)
     exact ⟨u',h1,by simpa using h2⟩
    ·rename_i l;cases h;obtain ⟨u',h1,h2⟩:=key (cap.map (· - l.toNat)) hc.1 (.inr ⟨rfl,by simpa using hc.2⟩) (λ_=>⟨λ_=>⟨λh=>by simpa using h,λk hk=>by
      simp only [ade]at hk;obtain ⟨c0,h1,h2⟩:=hk;exact ⟨c0,h1,by simp [<- h2]⟩⟩,λq h=>by cases h⟩)
     exact ⟨u',h1,by simpa [aea l.toNat i]using h2⟩
    ·cases h
   ·cases h
 ·
   rename_i id n i p;split at h
   ·rename_i B k e a7 hk;obtain ⟨hb,h⟩:=aB h;cases h;have e1:B.n=n:=by simpa [nP,nC,a7,ay]using c9
    have e2:=uS hb;obtain ⟨q,hq,hn,hx⟩:=Rep.ptr_inv hx;obtain ⟨q',cs,c1,c2,c3,c4,_⟩:=hw.cellsAt a7 hq;rw [hq]at c1;cases c1;obtain ⟨d,b5,rfl⟩:=hx (by rw [c3,e1]);obtain ⟨a,a9,c7⟩:=hc;refine ⟨_,yw hT hk hl hh hm a0 a w,?_⟩;obtain ⟨a4,a8⟩:=yX (aa3 k) a;have hok':=a
    simp only [qL,qF]at hok' a9 ⊢;obtain ⟨o1,o2,o3,o4⟩:=hok';have b7:kC f k=(f.getD (k:Int)).toNat:=by cases f <;> simp [kC]
    have hlen:((hi.getD (k:Int)) - (lo.getD 0)).toNat=(hi.getD (k:Int)).toNat - (lo.getD 0).toNat:=by omega
    rw [hlen,<- b7];have v:(if kC f k=(lo.getD 0).toNat then (⟨q.b,i*(T q.ty).size+aG T q.ty p,none⟩:Addr)else (⟨q.b,i*(T q.ty).size+aG T q.ty p,none⟩:Addr).add ((lo.getD 0).toNat*(T e).size))=⟨q.b,i*(T q.ty).size+aG T q.ty p+(lo.getD 0).toNat*(T e).size,none⟩:=by
     split
     ·rename_i hr;rcases a9 with h0 | h0
      ·omega
      ·simp [h0]
     ·simp only [jD]
    rw [v];exact .one ⟨[_],.arr q hq hn rfl (λ_=>⟨d,t,k,e,by rw [c2];exact e2,b5,hk,by omega,by omega,by omega,rfl⟩),rfl⟩
   ·cases h
 ·
   rename_i u x';split at h
   ·rename_i k e hk;obtain ⟨hb,h⟩:=aB h;cases h;have e1:=abJ hb
    subst e1;obtain ⟨b,off,seg,ht,k1,k2,k3,k4,rfl⟩:=Rep.rp_inv hx;obtain ⟨a,c7⟩:=hc;refine ⟨_,yw hT hk hl hh hm a0 a w,?_⟩;obtain ⟨a4,a8⟩:=yX (aa3 k) a;have hok':=a
    simp only [qL,qF]at hok' ⊢;obtain ⟨o1,o2,o3,o4⟩:=hok';have hlen:((hi.getD (k:Int)) - (lo.getD 0)).toNat=(hi.getD (k:Int)).toNat - (lo.getD 0).toNat:=by omega
    rw [hlen];have a6:(Ac hi&&Ac f)=true->kC f k - (lo.getD 0).toNat=(hi.getD (k:Int)).toNat - (lo.getD 0).toNat:=by
     intro hf;cases hi with
     | some _=>cases hf
     | none =>
      cases f with
      | some _=>cases hf
      | none=>simp [kC]
    have d6:∀ j,j<k -> ∃ sg,Rep T N I iG (x'.at [j]) sg/\fit T e (x'.at [j])=true/\sg.length=(T e).size /\ ∀ o,o<(T e).size->seg[j*(T e).size+o]? = sg[o]? := by
     intro j hj;have d8:aY T u [j]=some e:=by simp [aY,hk]
     have b5:pathIn T u [j]:=by simp [pathIn,hk,hj]
     have d7:aG T u [j]=j*(T e).size:=by simp [aG,hk]
     obtain ⟨sg,r1,r2,r3,r4⟩:=k1.at [j] k2 k3 d8 b5;exact ⟨sg,r1,r2,r3,λo ho=>by rw [<- r4 o ho,d7]⟩
    have hex:∀ j,∃ sg,j<k->Rep T N I iG (x'.at [j]) sg/\fit T e (x'.at [j])=true/\sg.length=(T e).size /\ ∀ o,o<(T e).size->seg[j*(T e).size+o]? = sg[o]? := by
     intro j;by_cases hj:j<k
     ·obtain ⟨sg,h⟩:=d6 j hj;exact ⟨sg,λ_=>h⟩
     ·exact ⟨[],λh=>absurd h hj⟩
    have z:=λj=>adt (hex j);have hN:=(hT.array u k e hk).1
    have hsz:seg.length=k*(T e).size:=by rw [k3];exact (hT.array u k e hk).2
    by_cases a3:kC f k=(lo.getD 0).toNat
    ·rw [aaU a3];exact .one ⟨[_],.row b off _ (λj=>[]) hN (by omega) (by omega) a6 (λi d=>by omega) (λi d=>by omega) (λi d=>by omega) (λi d=>by omega),rfl⟩
    ·rw [Y0 a3,jD];refine .one ⟨[_],.row b (off+(lo.getD 0).toNat*(T e).size) _ (λj=>Classical.choose (hex ((lo.getD 0).toNat+j))) hN (by omega) (by omega) a6 (λj hj=>(z _ (by omega)).1) (λj hj=>(z _ (by omega)).2.1) (λj hj=>(z _ (by omega)).2.2.1) (λj hj o ho=>?_),rfl⟩;have h4:=(z ((lo.getD 0).toNat+j) (by omega)).2.2.2 o ho
     rw [<- h4];have h5:((lo.getD 0).toNat+j+1)*(T e).size<=k*(T e).size:=ab7 _ (by omega)
     rw [adK,<- hsz]at h5;have h6:=k4 (((lo.getD 0).toNat+j)*(T e).size+o) (by rw [<- k3];omega)
     rw [<- h6];congr 1;rw [adD];omega
   ·cases h
 ·cases h
end
section
variable {P:Program} {T:Nat->TI} {N:Nat}
def acQ (P:Program) (sz n:Nat) (news:List Value) (y:Value) (w:World):Prop :=
 (Builtin.lenOf y).run P w = .ok n w /\ ∀ k,k<=n->(Builtin.firstCells sz k y).run P w = .ok (news.take (k*sz)).toArray w
theorem RJ {a:Addr} {n c sz:Nat} {y:Value} {news:List Value} {w:World} (h:Ud a n c y) (hl:news.length=n*sz) (hn:∀ (j:Nat) (u:Value),news[j]? = some u->w.cell? (a.add j)=some u):acQ P sz n news y w:=by
 rcases h with rfl | ⟨rfl,rfl⟩
 ·refine ⟨by simp [Builtin.lenOf],λk hk=>?_⟩;refine run_firstCells_some (P:=P) w sz k a n c (news.take (k*sz)) ?_ (λj v b=>hn j v ?_);{rw [adg,hl];exact aep (ab7 _ hk)};rw [adO]at b;split at b;{exact b};cases b
 refine ⟨by simp [Builtin.lenOf],λk hk=>?_⟩;(have:k=0:=by omega);subst this;simp [run_firstCells_none]
theorem PY (hT:jf P T N) {I:fK} {ρ:Pl} {m:Id->Option Ob} {w:World} (hw:dY T N I ρ m w) {x:AV} {y:Value} {e:Nat} (he:0<(T e).size) {r:Nat×(Nat->AV)×List Id} (hx:dU T N I ρ x y) (h:Nh T m e x=some r) (z:ay (nP m x)) :
 ∃ news:List Value,acQ P (T e).size r.1 news y w/\news.length=r.1*(T e).size/\(∀ u∈news,u.oneCell'=true) /\
  ∀ i,i<r.1 -> ∃ seg,Rep T N I ρ (r.2.1 i) seg/\fit T e (r.2.1 i)=true/\seg.length=(T e).size /\ ∀ o,o<(T e).size->news[i*(T e).size+o]? = seg[o]? := by
 unfold Nh at h;split at h
 ·rename_i id n i p lo len hi;split at h
  ·rename_i B hm;obtain ⟨hb,h⟩:=aB h;cases h;have s:=uS hb
   have e1:B.n=n:=by simpa [nP,nC,hm,ay]using z
   obtain ⟨q,hq,hn,hx⟩:=Rep.arr_inv hx;obtain ⟨q',cs,c1,c2,c3,c4,c5,c6,c7,c8,c9,b2⟩:=hw.cellsAt hm hq;rw [hq]at c1;cases c1;obtain ⟨a3,ta,ka,d,g1,g2,g3,g4,g5,g6,rfl⟩:=hx (by rw [c3,e1]);rw [<- c2,lV p g1]at s;have a2:d=e:=by simpa [aY,g3]using s
   subst a2;have hex:∀ k,∃ seg,k<len->Rep T N I ρ (((B.get i).at p).at [lo+k]) seg/\fit T d (((B.get i).at p).at [lo+k])=true/\seg.length=(T d).size /\
    ∀ o,o<(T d).size->w.cell? ⟨q.b,i*(T q.ty).size+aG T q.ty p+lo*(T d).size+(k*(T d).size+o),none⟩=seg[o]? := by
    intro k;by_cases hk:k<len
    ·obtain ⟨seg,s1,s2,s3,s4⟩:=ptr_cells hw hm hq (i:=i) (p:=p++[lo+k]) (t:=d) (by rw [e1];exact a3) (by rw [<- c2,lV p g1];simp [aY,g3]) (by rw [<- c2];exact nN p g1 g2 (by simp [pathIn,g3];omega));rw [F6]at s1 s2;refine ⟨seg,λ_=>⟨s1,s2,s3,λo ho=>?_⟩⟩;rw [<- s4 o ho,lZ p g1];congr 2;simp only [aG,g3,adD];omega
    ·exact ⟨[],λh=>absurd h hk⟩
   have g:=λk=>adt (hex k);generalize a6:(λk=>Classical.choose (hex k))=segs at g;have f:∀ k,k<len->Rep T N I ρ (((B.get i).at p).at [lo+k]) (segs k)/\fit T d (((B.get i).at p).at [lo+k])=true/\(segs k).length=(T d).size /\
    ∀ o,o<(T d).size->w.cell? ⟨q.b,i*(T q.ty).size+aG T q.ty p+lo*(T d).size+(k*(T d).size+o),none⟩=(segs k)[o]? := by
    intro k hk;have h1:=g k hk
    rw [<- a6];exact h1
   have hsz:∀ k,k<len->(segs k).length=(T d).size:=λk hk=>(f k hk).2.2.1;refine ⟨(List.range len).flatMap segs,RJ (.inl rfl) (iR segs hsz) ?_,iR segs hsz,?_,λk hk=>⟨segs k,(f k hk).1,(f k hk).2.1,hsz k hk,λo ho=>jA segs hsz hk ho⟩⟩
   ·intro j v l;have hj:j<len*(T d).size:=by rw [<- iR segs hsz];exact (List.getElem?_eq_some_iff.1 l).1
    rw [mM segs he hsz hj]at l;rw [jD];have hk:=(f (j / (T d).size) (div_lt he hj)).2.2.2 (j % (T d).size) (aeZ _ he)
    rw [l,show j / (T d).size*(T d).size+j % (T d).size=j from by rw [aer];exact aeM j _]at hk;exact hk
   ·intro v l;simp only [aeQ,adE]at l;obtain ⟨k,hk,l⟩:=l;exact (f k hk).1.cells_one v l
  ·cases h
 ·obtain ⟨a,c,news,h1,h2,h3,h4,h5,h6⟩:=yR (P:=P) hT hw he hx h z;exact ⟨news,RJ h1 h2 h3,h2,h4,h6⟩
theorem Na (hT:jf P T N) {I:fK} {ρ:Pl} {m:Id->Option Ob} {w:World} (hw:dY T N I ρ m w) {id:Id} {B:zI} {i:Nat} {p:List Nat} {t:Nat} {y:AV} {q:Place} {a:List Value} {cs:Array Value}
 (hm:m id=some (.cells B)) (x:ρ id=some q) (hi:i<B.n) (r:aY T B.ty p=some t) (l:pathIn T B.ty p) (h:B.fz<=i)
 (z:Rep T N I ρ y a) (g:fit T t y=true) (k:a.length=(T t).size) (e:w.heap[q.b]? = some (.cells cs B.ty (0,0))) :
 ∃ I' ρ',Ev I ρ w I' ρ' (w.setRow q.b (cs.toList.take (i*(T B.ty).size+aG T B.ty p)++a++cs.toList.drop (i*(T B.ty).size+aG T B.ty p+a.length)).toArray) /\
  dY T N I' ρ' (uy m id (.cells { B with get:=λj=>bif Nat.beq j i then (B.get i).put p y else B.get j})) (w.setRow q.b (cs.toList.take (i*(T B.ty).size+aG T B.ty p)++a++cs.toList.drop (i*(T B.ty).size+aG T B.ty p+a.length)).toArray):=by
 obtain ⟨nx,w',I',ρ',s,_,u,v⟩:=Ko (P:=P) (o:=⟨none,.move (.const undef),0,"",#[],none⟩) (c:=none) (f:=[]) hT hw hm x hi r l h z g k rfl
  (run:=λ_ => .ok .skip (w.setRow q.b (cs.toList.take (i*(T B.ty).size+aG T B.ty p)++a++cs.toList.drop (i*(T B.ty).size+aG T B.ty p+a.length)).toArray)) (λds d _=>by rw [e]at d;cases d;rfl)
 simp only [Result.ok.injEq]at s;obtain ⟨_,rfl⟩:=s;exact ⟨I',ρ',u,by simpa [iP]using v⟩
theorem Uj {es lo cnt k A:Nat} (c:0<es) {cs news:List Value} {segs olds:Nat->List Value} (hA:A+k*es<=cs.length) (hk:lo+cnt<=k) (s:cnt*es<=news.length)
 (hl:∀ j,j<k->(segs j).length=es) (i:∀ j,j<k->lo<=j->j<lo+cnt -> ∀ o,o<es->(segs j)[o]? = news[(j - lo)*es+o]?) (hold:∀ j,j<k->(j<lo\/lo+cnt<=j) -> ∀ o,o<es->(segs j)[o]? = cs[A+(j*es+o)]?) :
 cs.take A++(List.range k).flatMap segs++cs.drop (A+((List.range k).flatMap segs).length)=cs.take (A+lo*es)++news.take (cnt*es)++cs.drop (A+lo*es+(news.take (cnt*es)).length):=by
 have e:=iR segs hl;have n:(lo+cnt)*es<=k*es:=ab7 _ hk
 rw [adD]at n;have d:(news.take (cnt*es)).length=cnt*es:=by rw [adg];omega
 have l:(cs.take A).length=A:=by rw [adg];omega
 have f:(cs.take (A+lo*es)).length=A+lo*es:=by rw [adg];omega
 apply List.ext_getElem?;intro z;rw [e,d];rcases ado z A with r | r
 ·rw [adu,ac6 (by omega),adu,ac6 (by omega),adO,adO,aaU r,aaU (by omega)]
 ·rcases ado z (A+k*es)with p | p
  ·rw [adu,adi (by omega),l,ac6 (by rw [e];omega)];have g:(z - A) / es<k:=div_lt c (by omega)
   have q:(z - A) % es<es:=aeZ _ c;have hd:(z - A) / es*es+(z - A) % es=z - A:=by rw [aer];exact aeM _ _
   rw [mM segs c hl (by omega)];by_cases a:lo<=(z - A) / es/\(z - A) / es<lo+cnt
   ·have m:lo*es<=(z - A) / es*es:=ab7 _ a.1;have t:((z - A) / es+1)*es<=(lo+cnt)*es:=ab7 _ a.2
    rw [adD,adD,Nat.one_mul]at t;rw [i _ g a.1 a.2 _ q,adu,adi (by omega),f,ac6 (by omega),adO,aaU (by omega)];congr 1;rw [Nat.sub_mul];omega
   ·have b:(z - A) / es<lo\/lo+cnt<=(z - A) / es:=by omega
    rw [hold _ g b _ q];rcases b with h | h
    ·have m:((z - A) / es+1)*es<=lo*es:=ab7 _ h;rw [adD,Nat.one_mul]at m;rw [adu,ac6 (by omega),adO,aaU (by omega)];congr 1;omega
    ·have m:(lo+cnt)*es<=(z - A) / es*es:=ab7 _ h;rw [adD]at m;rw [adi (by rw [adl];omega),adl,f,d,aeT];congr 1;omega
  ·rw [adi (by rw [adl];omega),adl,l,e,aeT,adi (by rw [adl];omega),adl,f,d,aeT];congr 1;omega
theorem Q8 (hT:jf P T N) {I:fK} {ρ:Pl} {m:Id->Option Ob} {w:World} (hw:dY T N I ρ m w) {x x':AV} {y y':Value} {t e:Nat} {ty:TypeId} {q:Nat×(Nat->AV)×List Id} {r:Nat×List (Id×Ob)×List Id×Prop} (hk:(T t).kind = .slice e)
 (hx:dU T N I ρ x y) (e0:dU T N I ρ x' y') (hq:Nh T m e x'=some q) (h:Q7 T m e q x=some r) (hc:r.2.2.2) (d7:ay (nP m x)) (b5:ay (nP m x')) :
 ∃ w' I' ρ',(Builtin.copy_ #[t,t] ty #[y,y']).run P w = .ok (.int .i64 r.1) w'/\Ev I ρ w I' ρ' w'/\dY T N I' ρ' (iP m r.2.1) w':=by
 have he:=hT.slice t e hk;have a6:=hT.size_pos he
 obtain ⟨news,⟨n1,n2⟩,n3,n4,n5⟩:=PY (P:=P) hT hw a6 e0 hq b5;unfold Q7 at h;split at h
 ·rename_i id n i p lo len hi;split at h
  ·rename_i B hm;simp only [aaC]at h;obtain ⟨ta,l,h⟩:=h;split at h
   ·rename_i k c f;obtain ⟨hb,h⟩:=aB h;cases h;have ee:=abJ hb
    subst ee;have e1:B.n=n:=by simpa [nP,nC,hm,ay]using d7
    obtain ⟨pl,hp,hn,hx⟩:=Rep.arr_inv hx;obtain ⟨p',cs,c1,c2,c3,c4,c5,c6,c7,c8,c9,e9⟩:=hw.cellsAt hm hp;rw [hp]at c1;cases c1;obtain ⟨f5,h6,g0,f2,g1,g2,g3,g4,g5,g6,rfl⟩:=hx (by rw [c3,e1]);rw [c2,l]at g1;cases g1;rw [f]at g3;cases g3;rw [c2]at g2;generalize s:Nat.min q.1 len=cnt;have f4:cnt<=len:=by rw [<- s];exact Nat.min_le_right _ _
    have b0:cnt<=q.1:=by rw [<- s];exact Nat.min_le_left _ _
    have d4:B.fz<=i:=hc;have u:i<B.n:=by omega
    obtain ⟨sg,r1,r2,r3,r4⟩:=c8 i u;have f6:=l7 r1 r2 r3 l g2
    have a0:=(hT.array ta k c f).2;have a8:(i+1)*(T B.ty).size<=B.n*(T B.ty).size:=ab7 _ u
    rw [adK]at a8;have hold:∀ j,∃ seg,j<k->Rep T N I ρ (((B.get i).at p).at [j]) seg/\fit T c (((B.get i).at p).at [j])=true/\seg.length=(T c).size /\
     ∀ o,o<(T c).size->cs.toList[i*(T B.ty).size+aG T B.ty p+(j*(T c).size+o)]? = seg[o]? := by
     intro j;by_cases d:j<k
     ·obtain ⟨seg,s1,s2,s3,s4⟩:=ptr_cells hw hm hp (i:=i) (p:=p++[j]) (t:=c) u (by rw [lV p l];simp [aY,f]) (nN p l g2 (by simp [pathIn,f];omega));rw [F6]at s1 s2;refine ⟨seg,λ_=>⟨s1,s2,s3,λo ho=>?_⟩⟩;rw [<- s4 o ho,c2,lZ p l];simp only [aG,f,ad2,World.cell?,c5,Option.isSome_none,adW,adH,adn];congr 1;omega
     ·exact ⟨[],λh=>absurd h d⟩
    have b1:∀ j,∃ seg,j<q.1->Rep T N I ρ (q.2.1 j) seg/\fit T c (q.2.1 j)=true/\seg.length=(T c).size /\ ∀ o,o<(T c).size->news[j*(T c).size+o]? = seg[o]? := by
     intro j;by_cases d:j<q.1
     ·obtain ⟨seg,h⟩:=n5 j d;exact ⟨seg,λ_=>h⟩
     ·exact ⟨[],λh=>absurd h d⟩
    have ho:=λj=>adt (hold j);have d6:=λj=>adt (b1 j)
    have b3:∀ a b:Nat,(Nat.blt a b=true)=(a<b):=λa b=>by simp [adV]
    have b7:∀ j,j<k -> ∃ seg,Rep T N I ρ (bif Nat.ble lo j&&Nat.blt j (lo+cnt)then q.2.1 (j - lo)else ((B.get i).at p).at [j]) seg/\fit T c (bif Nat.ble lo j&&Nat.blt j (lo+cnt)then q.2.1 (j - lo)else ((B.get i).at p).at [j])=true/\seg.length=(T c).size /\
     (lo<=j->j<lo+cnt -> ∀ o,o<(T c).size->seg[o]? = news[(j - lo)*(T c).size+o]?)/\((j<lo\/lo+cnt<=j) -> ∀ o,o<(T c).size->seg[o]? = cs.toList[i*(T B.ty).size+aG T B.ty p+(j*(T c).size+o)]?):=by
     intro j d;by_cases z:lo<=j/\j<lo+cnt
     ·have a9:(Nat.ble lo j&&Nat.blt j (lo+cnt))=true:=by simp [z.1,z.2,b3,adV]
      rw [a9];obtain ⟨a1,a2,a3,a4⟩:=d6 (j - lo) (by omega);exact ⟨_,a1,a2,a3,λ_ _ o ho=>(a4 o ho).symm,λh=>by omega⟩
     ·have a9:(Nat.ble lo j&&Nat.blt j (lo+cnt))=false:=by
       cases hz:(Nat.ble lo j&&Nat.blt j (lo+cnt))with
       | false=>rfl
       | true=>simp [adV]at hz;exact absurd hz z
      rw [a9];obtain ⟨a1,a2,a3,a4⟩:=ho j d;exact ⟨_,a1,a2,a3,λh1 h2=>absurd ⟨h1,h2⟩ z,λ_ o ho=>(a4 o ho).symm⟩
    have hex:∀ j,∃ seg,j<k->Rep T N I ρ (bif Nat.ble lo j&&Nat.blt j (lo+cnt)then q.2.1 (j - lo)else ((B.get i).at p).at [j]) seg/\fit T c (bif Nat.ble lo j&&Nat.blt j (lo+cnt)then q.2.1 (j - lo)else ((B.get i).at p).at [j])=true/\seg.length=(T c).size /\
     (lo<=j->j<lo+cnt -> ∀ o,o<(T c).size->seg[o]? = news[(j - lo)*(T c).size+o]?)/\((j<lo\/lo+cnt<=j) -> ∀ o,o<(T c).size->seg[o]? = cs.toList[i*(T B.ty).size+aG T B.ty p+(j*(T c).size+o)]?):=by
     intro j;by_cases d:j<k
     ·obtain ⟨seg,h⟩:=b7 j d;exact ⟨seg,λ_=>h⟩
     ·exact ⟨[],λh=>absurd h d⟩
    have hs:=λj=>adt (hex j);generalize d8:(λj=>Classical.choose (hex j))=segs at hs;have g:∀ j,j<k->Rep T N I ρ (bif Nat.ble lo j&&Nat.blt j (lo+cnt)then q.2.1 (j - lo)else ((B.get i).at p).at [j]) (segs j)/\fit T c (bif Nat.ble lo j&&Nat.blt j (lo+cnt)then q.2.1 (j - lo)else ((B.get i).at p).at [j])=true/\(segs j).length=(T c).size /\
     (lo<=j->j<lo+cnt -> ∀ o,o<(T c).size->(segs j)[o]? = news[(j - lo)*(T c).size+o]?)/\((j<lo\/lo+cnt<=j) -> ∀ o,o<(T c).size->(segs j)[o]? = cs.toList[i*(T B.ty).size+aG T B.ty p+(j*(T c).size+o)]?):=by
     intro j d;have h1:=hs j d
     rw [<- d8];exact h1
    have b6:Rep T N I ρ (.agg ta k λj=>bif Nat.ble lo j&&Nat.blt j (lo+cnt)then q.2.1 (j - lo)else ((B.get i).at p).at [j]) ((List.range k).flatMap segs) :=
     .array c segs f (hT.pathLt p c4 l) (λj d=>(g j d).1) (λj d=>(g j d).2.1) (λj d=>(g j d).2.2.1)
    have d9:=iR segs (λj d=>(g j d).2.2.1);obtain ⟨I',ρ',z1,z2⟩:=Na (P:=P) hT hw hm hp u l g2 d4 b6 (by simp [fit,f,TK.isAgg]) (by rw [d9,a0]) c5;have a5:lo+cnt<=k:=by omega
    have d2:=Uj (A:=i*(T B.ty).size+aG T B.ty p) a6 (cs:=cs.toList) (news:=news) (lo:=lo) (cnt:=cnt) (k:=k) (segs:=segs) (olds:=segs) (by rw [aen,<- a0];omega) a5 (by rw [n3];exact ab7 _ b0)
     (λj d=>(g j d).2.2.1) (λj d h1 h2=>(g j d).2.2.2.1 h1 h2) (λj d h1=>(g j d).2.2.2.2 h1)
    rw [d2]at z1 z2;refine ⟨_,I',ρ',?_,z1,by simpa [iP]using z2⟩;have d3:=n2 cnt b0
    have b4:i*(T B.ty).size+aG T B.ty p+lo*(T c).size+(news.take (cnt*(T c).size)).length<=cs.size:=by
     have f7:(news.take (cnt*(T c).size)).length=cnt*(T c).size:=by rw [adg,n3];exact aep (ab7 _ b0)
     have d5:(lo+cnt)*(T c).size<=k*(T c).size:=ab7 _ a5;rw [adD]at d5;omega
    have b8:=run_storeCells_at P pl.b (i*(T B.ty).size+aG T B.ty p+lo*(T c).size) B.ty (news.take (cnt*(T c).size)) 0 cs w c5 (by simpa using b4) (λv hv=>n4 v (List.mem_of_mem_take hv));simp only [ad2]at b8;have d1:i*(T pl.ty).size+aG T pl.ty p=i*(T B.ty).size+aG T B.ty p:=by rw [c2]
    simp only [d1];simp [Builtin.copy_,(hT.sli hk).2,n1,s,hT.runSize he,d3,b8,goInt]
   ·cases h
  ·cases h
 ·cases h
theorem Ju (hT:jf P T N) {I:fK} {ρ:Pl} {m:Id->Option Ob} {w w':World} (hw:dY T N I ρ m w) {id:Id} {B:zI} {i len:Nat} {h:Nat->AV} {q:Place} {cs cs':Array Value}
 (hm:m id=some (.cells B)) (u:ρ id=some q) (hi:i+len<=B.n) (a0:B.fz<=i) (s:w.heap[q.b]? = some (.cells cs B.ty (0,0))) (hsz:cs'.size=cs.size)
 (a1:w'.heap[q.b]? = some (.cells cs' B.ty (0,0))) (e:∀ b,b<w.heap.size->b≠q.b->w'.heap[b]? = w.heap[b]?) (hs:w.heap.size<=w'.heap.size) (h1:w'.os=w.os) (h2:w'.output=w.output) (h3:(w'.tape=w.tape/\w.drawn<=w'.drawn))
 (a2:∀ j,j<len -> ∃ seg,Rep T N I ρ (h j) seg/\fit T B.ty (h j)=true/\seg.length=(T B.ty).size /\ ∀ o,o<(T B.ty).size->cs'[(i+j)*(T B.ty).size+o]? = seg[o]?)
 (f:∀ k,k<i*(T B.ty).size\/(i+len)*(T B.ty).size<=k->cs'[k]? = cs[k]?) :
 Ev I ρ w I ρ w'/\dY T N I ρ (uy m id (.cells { B with get:=λj=>bif Nat.ble i j&&Nat.blt j (i+len)then h (j - i)else B.get j})) w':=by
 obtain ⟨q',b1,c1,c2,c3,c4,c5,c6,c7,c8,c9,a7⟩:=hw.cellsAt hm u;rw [u]at c1;cases c1;rw [s]at c5;cases c5;have c:({ q with n:=({ B with get:=λj=>bif Nat.ble i j&&Nat.blt j (i+len)then h (j - i)else B.get j}:zI).n}:Place)=q:=by cases q;simp_all
 have g:nJ ρ id q=ρ:=by
  funext a;by_cases ha:a=id
  ·subst ha;rw [dW,u]
  ·rw [dS _ _ ha]
 have r:=dY.change (B':={ B with get:=λj=>bif Nat.ble i j&&Nat.blt j (i+len)then h (j - i)else B.get j}) (w':=w') hw hm u s rfl rfl (aa3 _) hsz (by rw [hsz,c6];exact c7) a1 e
  (
   λj hj=>by
   have:B.fz*(T B.ty).size<=i*(T B.ty).size:=ab7 _ a0;exact f j (.inl (by omega)))
  (
   λj hj=>by
   rw [c,g];simp only at hj;by_cases d:i<=j/\j<i+len
   ·have l:(Nat.ble i j&&Nat.blt j (i+len))=true:=by simp [d.1,d.2,adV]
    simp only [l,adv];obtain ⟨seg,v,x,y,z⟩:=a2 (j - i) (by omega);refine ⟨seg,v,x,y,λo ho=>?_⟩;rw [<- z o ho];congr 3;omega
   ·have l:(Nat.ble i j&&Nat.blt j (i+len))=false:=by
     cases hz:(Nat.ble i j&&Nat.blt j (i+len))with
     | false=>rfl
     | true=>simp [adV]at hz;exact absurd hz d
    simp only [l,ads];obtain ⟨seg,v,x,y,z⟩:=c8 j hj;refine ⟨seg,v,x,y,λo ho=>?_⟩;rw [<- z o ho];refine f _ ?_;rcases ado j i with t | t
    ·have:(j+1)*(T B.ty).size<=i*(T B.ty).size:=ab7 _ t;rw [adK]at this;exact .inl (by omega)
    ·have:(i+len)*(T B.ty).size<=j*(T B.ty).size:=ab7 _ (by omega);exact .inr (by omega))
 rw [c,g]at r;exact ⟨Ev.change hw u (iJ.refl _) (λa p hp=>⟨a,p,hp,rfl⟩) e hs h1 h2 h3,r.2⟩
theorem Jd {z:Array Value} {n i o:Nat} (a:o<z.size) (hi:i<n):(Builtin.zeroCells z n)[i*z.size+o]? = z.toList[o]? := by
 have b:(i*z.size+o) % z.size=o:=by rw [aer,Nat.mul_add_mod];exact aew a
 have c:i*z.size+o<n*z.size:=by have:=ab7 z.size (show i+1<=n from hi);rw [adK]at this;omega
 simp [Builtin.zeroCells,c,b,a]
theorem Ph (hT:jf P T N) {I:fK} {ρ:Pl} {m:Id->Option Ob} {w:World} (hw:dY T N I ρ m w) {id:Id} {n i len:Nat} {cap:Option Nat} {B:zI} {y:Value} {t ty:Nat}
 (hm:m id=some (.cells B)) (hk:(T t).kind = .slice B.ty) (hx:dU T N I ρ (.own id n i len cap) y) (hn:B.n=n) (a3:B.fz<=i) (hz:rV (T B.ty).zero=true) :
 ∃ w',(Builtin.clear_ #[t] ty #[y]).run P w = .ok (.tuple #[]) w'/\Ev I ρ w I ρ w'/\dY T N I ρ (uy m id (.cells { B with get:=λj=>bif Nat.ble i j&&Nat.blt j (i+len)then (T B.ty).zero else B.get j})) w':=by
 have he:=hT.slice t B.ty hk;have same:len=0->dY T N I ρ (uy m id (.cells { B with get:=λj=>bif Nat.ble i j&&Nat.blt j (i+len)then (T B.ty).zero else B.get j})) w:=by
  rintro rfl;have e1:(λj=>bif Nat.ble i j&&Nat.blt j (i+0)then (T B.ty).zero else B.get j)=B.get:=by
   funext j;have a2:(Nat.ble i j&&Nat.blt j (i+0))=false:=by
    cases hz:(Nat.ble i j&&Nat.blt j (i+0))with
    | false=>rfl
    | true=>simp [adV]at hz;omega
   show (bif (Nat.ble i j&&Nat.blt j (i+0))then _ else _)=_;rw [a2];rfl
  have e2:uy m id (.cells { B with get:=λj=>bif Nat.ble i j&&Nat.blt j (i+0)then (T B.ty).zero else B.get j})=m:=by
   funext a;by_cases ha:a=id
   ·subst ha;rw [eY,hm,e1]
   ·rw [iI _ _ ha]
  rw [e2];exact hw
 rcases Rep.own_inv hx with ⟨rfl,rfl,rfl,rfl⟩ | ⟨q,hq,d0,hx⟩
 ·exact ⟨w,by simp [Builtin.clear_,(hT.sli hk).2],Ev.refl _ _ _,same rfl⟩
 obtain ⟨q',cs,c1,c2,c3,c4,c5,c6,c7,c8,c9,b6⟩:=hw.cellsAt hm hq;rw [hq]at c1;cases c1;obtain ⟨c,rfl,g1,g2,g3,g4,g5,g6⟩:=hx (by rw [c3,hn]);by_cases a7:len=0
 ·subst a7;exact ⟨w,by simp [Builtin.clear_,(hT.sli hk).2],Ev.refl _ _ _,same rfl⟩
 obtain ⟨inf,z,a4,b1,a1,l⟩:=hT.zero B.ty he hz;have f:z.cells.size=(T B.ty).size:=by
  have:=rC hT he (l I ρ) a1;simpa using this
 have g:∀ v∈(Builtin.zeroCells z.cells len).toList,v.oneCell'=true:=by
  intro v hv;have s:=(l I ρ).cells_one
  simp only [Builtin.zeroCells,aev,List.mem_map]at hv;obtain ⟨k,a5,rfl⟩:=hv;have a6:k<len*z.cells.size:=by simpa using a5
  have u:0<z.cells.size:=by
   rcases aeD z.cells.size with h | h
   ·rw [h]at a6;omega
   ·exact h
  have a8:k % z.cells.size<z.cells.size:=aeZ _ u;rw [getElem!_pos z.cells _ a8];exact s _ (by simp [Array.getElem_mem_toList])
 have p:(i+len)*(T B.ty).size<=B.n*(T B.ty).size:=ab7 _ (by omega);have d:(Builtin.zeroCells z.cells len).toList.length=len*(T B.ty).size:=by simp [Builtin.zeroCells,f]
 rw [adD]at p;have x:=run_storeCells_at P q.b (i*(T B.ty).size) B.ty (Builtin.zeroCells z.cells len).toList 0 cs w c5 (by rw [d];omega) g
 simp only [ad2]at x;have e:∀ k:Nat,(cs.toList.take (i*(T B.ty).size)++(Builtin.zeroCells z.cells len).toList++cs.toList.drop (i*(T B.ty).size+(Builtin.zeroCells z.cells len).toList.length)).toArray[k]? =
  if i*(T B.ty).size<=k/\k<i*(T B.ty).size+len*(T B.ty).size then (Builtin.zeroCells z.cells len)[k - i*(T B.ty).size]? else cs[k]? := by
  intro k;simp only [aeC];have p:cs.toList.length=cs.size:=by simp
  by_cases h1:k<i*(T B.ty).size
  ·rw [Y0 (by omega),adu,ac6 (by rw [adg];omega),adO,aaU h1,adn]
  ·by_cases h2:k<i*(T B.ty).size+len*(T B.ty).size
   ·rw [aaU (by omega),adu,adi (by rw [adg];omega),adg,aep (by omega),ac6 (by rw [d];omega),adn]
   ·rw [Y0 (by omega),adi (by rw [adl,adg,d];omega),adl,adg,aep (by omega),aeT,adn];rw [d];congr 1;omega
 have a0:=Ju (len:=len) (h:=λ_=>(T B.ty).zero) (w':=w.setRow q.b (cs.toList.take (i*(T B.ty).size)++(Builtin.zeroCells z.cells len).toList++cs.toList.drop (i*(T B.ty).size+(Builtin.zeroCells z.cells len).toList.length)).toArray) hT hw hm hq (by omega) a3 c5
  (by simp only [aeb,adl,adg,aeR,aen,d];omega) (setRow_heap w q.b cs _ B.ty (0,0) c5) (λb _ hb=>setRow_other w q.b b _ hb) (by simp) rfl rfl ⟨rfl,by first | exact aa3 _ | exact aeG _⟩
  (
   λj hj=>by
   refine ⟨z.cells.toList,l I ρ,a1,by simpa using f,λo ho=>?_⟩;have h9:(j+1)*(T B.ty).size<=len*(T B.ty).size:=ab7 _ hj
   rw [adK]at h9;rw [e,aaU (by rw [adD];omega),<- Jd (n:=len) (i:=j) (by omega) hj];congr 1;rw [adD,f];omega)
  (λk hk=>by rw [e,Y0 (by rw [<- adD];omega)])
 refine ⟨_,?_,a0.1,a0.2⟩;obtain ⟨l0,r⟩:∃ l0,len=l0+1:=⟨len - 1,by omega⟩;subst r;simp [Builtin.clear_,(hT.sli hk).2,zeroValue,typeInfo,a4,b1,x,c2]
end
section
variable {P:Program} {T:Nat->TI} {N:Nat}
theorem og (hT:jf P T N) {I:fK} {ρ:Pl} (em:Bool) (w:World):∀ (f n t:Nat) (x:AV) (v:Value),f<=n->Ai T f t=true->dU T N I ρ x v->fit T t x=true->(Instr.checkKey em n t v).run P w = .ok () w
 | 0,_,_,_,_,_,h,_,_=>by simp [Ai]at h
 | f+1,0,_,_,_,hn,_,_,_=>by omega
 | f+1,n+1,t,x,v,hn,hk,hx,hf=>by
  have plain:(T t).kind.isAgg=false->(∀ d,P.underlying t=some d->(∀ a b,d ≠ .array a b)/\(∀ a,d ≠ .struct a)/\(∀ a,d ≠ .interface a))->(Instr.checkKey em (n+1) t v).run P w = .ok () w:=by intro ha hd;(have ht:t<N:=by refine hT.lt (λe=>?_);simp [Ai,e]at hk);obtain ⟨d,h1,u,_⟩:=hT.runUnd ht;obtain ⟨g1,g2,g3⟩:=hd d u;simp only [Instr.checkKey,Sem.run_bind,h1,Result.andThen_ok];cases d <;> first | exact absurd rfl (g1 _ _) | exact absurd rfl (g2 _) | exact absurd rfl (g3 _) | rfl
  unfold Ai at hk;split at hk
  ·rename_i k c;have:=kind_int hT c w;refine plain (by rw [c];rfl) (λd hd=>?_);have u:=hT.runUnd (hT.lt (t:=t) (by rw [c];simp));obtain ⟨d',_,j,h4⟩:=u;rw [hd]at j;cases j;rw [c]at h4;cases d <;> simp_all [kindOf]
  ·rename_i c;refine plain (by rw [c];rfl) (λd hd=>?_);obtain ⟨d',_,j,h4⟩:=hT.runUnd (hT.lt (t:=t) (by rw [c];simp));rw [hd]at j;cases j;rw [c]at h4;cases d <;> simp_all [kindOf]
  ·rename_i c;refine plain (by rw [c];rfl) (λd hd=>?_);obtain ⟨d',_,j,h4⟩:=hT.runUnd (hT.lt (t:=t) (by rw [c];simp));rw [hd]at j;cases j;rw [c]at h4;cases d <;> simp_all [kindOf]
  ·
    rename_i fs c
    simp only [abe,adp]at hk
    obtain ⟨m,g,rfl⟩:=uV hf (by rw [c];rfl)
    obtain ⟨cs,hr,rfl,_,ht⟩:=dU.agg_inv hx
    obtain ⟨d,hd,l,a7⟩:=hT.und t ht
    rw [c]at l
    cases d <;> simp only [kindOf,reduceCtorEq,TK.struct.injEq]at l
    rename_i flds
    subst l
    rw [Instr.checkKey]
    simp only [Sem.run_bind,run_underlying hd,Result.andThen_ok]
    rw [<- Array.forIn_toList]
    have each:∀ i∈flds.toList,i.name ≠ "_" /\ ∃ y,(part i.type cs.toArray i.offset).run P w = .ok y w/\(Instr.checkKey em n i.type y).run P w = .ok () w:=by
     intro i hm
     obtain ⟨k,l⟩:=adw hm
     have s:flds[k]? = some i:=by rw [<- l,adn]
     obtain ⟨o1,o2⟩:=a7 flds rfl k i s
     have hu:(flds.toList.map (·.type))[k]? = some i.type:=by simp [s]
     have r:aY T t [k]=some i.type:=by simp only [aY,c,hu];rfl
     have z:pathIn T t [k]:=by simp [pathIn,c,hu]
     have a0:aG T t [k]=lU T (flds.toList.map (·.type)) k:=by simp [aG,c,hu]
     have q:fit T t (.agg t m g)=true:=by simp [fit,c,TK.isAgg]
     have b8:fit T t (.agg t m g)=true:=q
     obtain ⟨seg,s1,s2,s3,s4⟩:=hr.at [k] q (Rep.agg_len hT hr) r z
     have a9:=hT.pathLt [k] ht r
     have p:=kS hT a9 s1 s2 s3 (cs:=cs.toArray) (off:=i.offset) (w:=w) (λo ho=>by
      have:=s4 o ho
      rw [a0,<- o1]at this
      simpa using this)
     refine ⟨o2,_,p,og hT em w f n i.type _ _ (by omega) (hk.2 _ (ac8 hu)) s1.pack s2⟩
    generalize flds.toList=L at each
    induction L with| nil=>simp| cons i L ih=>obtain ⟨h1,y,u,j⟩:=each i (by simp);simp only [List.forIn_cons,Sem.run_bind,h1,ne_eq,adB,ad5,Result.andThen_ok,u,j,Sem.run_pure];exact ih (λy hy=>each y (by simp [hy]))
  ·
    rename_i len e c
    obtain ⟨m,g,rfl⟩:=uV hf (by rw [c];rfl)
    obtain ⟨cs,hr,rfl,_,ht⟩:=dU.agg_inv hx
    have he:=(hT.array t len e c).1
    have q:fit T t (.agg t m g)=true:=by simp [fit,c,TK.isAgg]
    rw [Instr.checkKey]
    simp only [Sem.run_bind,hT.arr c,Result.andThen_ok]
    simp only [Std.Legacy.Range.forIn_eq_forIn_range',Std.Legacy.Range.size,aeP,Nat.add_one_sub_one,Nat.div_one]
    have each:∀ k∈List.range' 0 len,∃ y,(part e cs.toArray (k*(T e).size)).run P w = .ok y w/\(Instr.checkKey em n e y).run P w = .ok () w:=by
     intro k hm
     have a8:k<len:=by simpa using hm
     have r:aY T t [k]=some e:=by simp [aY,c]
     have z:pathIn T t [k]:=by simp [pathIn,c,a8]
     have a0:aG T t [k]=k*(T e).size:=by simp [aG,c]
     obtain ⟨seg,s1,s2,s3,s4⟩:=hr.at [k] q (Rep.agg_len hT hr) r z
     have p:=kS hT he s1 s2 s3 (cs:=cs.toArray) (off:=k*(T e).size) (w:=w) (λo ho=>by
      have:=s4 o ho
      rw [a0]at this
      simpa using this)
     exact ⟨_,p,og hT em w f n e _ _ (by omega) hk s1.pack s2⟩
    generalize List.range' 0 len=L at each
    induction L with| nil=>simp| cons k L ih=>obtain ⟨y,u,j⟩:=each k (by simp);simp only [List.forIn_cons,Sem.run_bind,hT.runSize he,Result.andThen_ok,u,j,Sem.run_pure];exact ih (λy hy=>each y (by simp [hy]))
  cases hk
theorem Qw (hT:jf P T N) {I:fK} {ρ:Pl} {f g:Nat} {x y:AV} {u v:Value} {b:Bool} (hx:dU T N I ρ x u) (i:dU T N I ρ y v) (c:(T g).kind.isAgg=false) (h:dI T f g x y=some b) {d:TypeDesc} (hd:P.underlying g=some d):Instr.sameNow d u v=some b:=by
 have ht:(T g).kind ≠ .other:=by intro e;cases f <;> simp [dI,e]at h
 obtain ⟨k,_,j,a⟩:=hT.runUnd (hT.lt ht);rw [hd]at j;cases j;cases f with| zero=>simp [dI]at h| succ f=>unfold dI at h;split at h;{rename_i hk;obtain ⟨hb,h⟩:=aB h;cases h;obtain ⟨rfl,_⟩:=hx.v;obtain ⟨rfl,_⟩:=i.v;rw [hk]at a;(cases d <;> simp only [kindOf,reduceCtorEq,TK.int.injEq]at a);have:_=_:=ad6 hb;simp [Instr.sameNow,this]};{rename_i hk;cases h;obtain ⟨rfl,_⟩:=hx.v;obtain ⟨rfl,_⟩:=i.v;rw [hk]at a;(cases d <;> simp only [kindOf,reduceCtorEq]at a);rfl};{rename_i hk;cases h;obtain ⟨rfl,_⟩:=hx.v;obtain ⟨rfl,_⟩:=i.v;rw [hk]at a;(cases d <;> simp only [kindOf,reduceCtorEq]at a);rfl};{rename_i hk;rw [hk]at c;cases c};{rename_i hk;rw [hk]at c;cases c};(cases h)
theorem get_map {w:World} {r:Nat} {es:Array MapEntry} {clock:Nat} (hb:w.heap[r]? = some (.map es clock)):(getObj r).run P w = .ok (.map es clock) w:=by
 simp [getObj,Sem.run,hb]
theorem RV {w:World} {r:Nat} {es:Array MapEntry} {clock:Nat} (o:Obj) (hb:w.heap[r]? = some (.map es clock)):(setObj r o).run P w = .ok () { w with heap:=w.heap.setIfInBounds r o}:=by
 simp [setObj,Sem.run,hb]
def Found (es:List MapEntry) (i0:Nat) (j:Option Nat) (r:Option (Nat×Value)):Prop:=match j with
 | none=>r=none
 | some i => ∃ e,i0<=i/\es[i - i0]? = some e/\r=some (i,e.val)
theorem Found.cons {e:MapEntry} {es:List MapEntry} {i0:Nat} {j:Option Nat} {r:Option (Nat×Value)} (h:Found es (i0+1) j r):Found (e::es) i0 j r:=by
 cases j with| none=>exact h| some i=>obtain ⟨a,d,b,c⟩:=h;exact ⟨a,by omega,by rw [show i - i0=(i - (i0+1))+1 by omega,aeJ];exact b,c⟩
theorem EL (hT:jf P T N) {I:fK} {ρ:Pl} {l:Nat} {k:AV} {kv:Value} (hk:dU T N I ρ k kv) (f:(T l).kind.isAgg=false) {d:TypeDesc} (hd:P.underlying l=some d):∀ (es:List (AV×AV)) (a:List MapEntry) (i0:Nat) (j:Option Nat),a.length=es.length ->
 (∀ (i:Nat) (p:AV×AV) (e:MapEntry),es[i]? = some p->a[i]? = some e->dU T N I ρ p.1 e.key)->mapIdx T l k es i0=some j -> ∃ r,Instr.findNow d kv a i0=some r/\Found a i0 j r
 | [],[],i0,j,_,_,h=>by cases h;exact ⟨none,rfl,rfl⟩
 | [],_::_,_,_,hl,_,_=>by simp at hl
 | _::_,[],_,_,hl,_,_=>by simp at hl
 | p::es,e::a,i0,j,hl,hr,h=>by unfold mapIdx at h;split at h;{rename_i g;cases h;have:=Qw hT hk (hr 0 p e rfl rfl) f g hd;exact ⟨some (i0,e.val),by simp [Instr.findNow,this],e,aa3 _,by simp,rfl⟩};{rename_i g;have:=Qw hT hk (hr 0 p e rfl rfl) f g hd;obtain ⟨r,b,c⟩:=EL hT hk f hd es a (i0+1) j (by simpa using hl) (λi p' m b c=>hr (i+1) p' m (by simpa using b) (by simpa using c)) h;exact ⟨r,by simp [Instr.findNow,this,b],c.cons⟩};cases h
theorem zo (hE:wZ P T N) {I:fK} {ρ:Pl} {b:Nat} {k:AV} {kv:Value} (hk:dU T N I ρ k kv) (f:(T b).kind.isAgg=true) (w:World):∀ (es:List (AV×AV)) (a:List MapEntry) (i0:Nat) (j:Option Nat),a.length=es.length ->
 (∀ (i:Nat) (p:AV×AV) (e:MapEntry),es[i]? = some p->a[i]? = some e->dU T N I ρ p.1 e.key)->mapIdx T b k es i0=some j -> ∃ r,(Instr.findAsking b kv a i0).run P w = .ok r w/\Found a i0 j r
 | [],[],i0,j,_,_,h=>by cases h;exact ⟨none,by simp [Instr.findAsking],rfl⟩
 | [],_::_,_,_,hl,_,_=>by simp at hl
 | _::_,[],_,_,hl,_,_=>by simp at hl
 | p::es,e::a,i0,j,hl,hr,h=>by unfold mapIdx at h;split at h;{rename_i g;cases h;have:=(hE I ρ 40 b _ _ _ _ _ w hk (hr 0 p e rfl rfl) f g (aa3 _)).1;exact ⟨some (i0,e.val),by simp [Instr.findAsking,this],e,aa3 _,by simp,rfl⟩};{rename_i g;have:=(hE I ρ 40 b _ _ _ _ _ w hk (hr 0 p e rfl rfl) f g (aa3 _)).1;obtain ⟨r,c,d⟩:=zo hE hk f w es a (i0+1) j (by simpa using hl) (λi p' l c d=>hr (i+1) p' l (by simpa using c) (by simpa using d)) h;exact ⟨r,by simp [Instr.findAsking,this,c],d.cons⟩};cases h
theorem EM (hT:jf P T N) (hE:wZ P T N) {I:fK} {ρ:Pl} {c:Nat} {k:AV} {kv:Value} (n:c<N) (hk:dU T N I ρ k kv) (w:World) {es:List (AV×AV)} {a:List MapEntry} {j:Option Nat} (hl:a.length=es.length)
 (o:∀ (i:Nat) (p:AV×AV) (e:MapEntry),es[i]? = some p->a[i]? = some e->dU T N I ρ p.1 e.key) (h:mapIdx T c k es 0=some j):∃ r,(Instr.findKey c kv a).run P w = .ok r w/\Found a 0 j r:=by
 obtain ⟨d,hd,l,m⟩:=hT.runUnd n;cases b:(T c).kind.isAgg with
 | false =>
  obtain ⟨r,f,g⟩:=EL hT hk b l es a 0 j hl o h;exact ⟨r,by simp [Instr.findKey,hd,f],g⟩
 | true =>
  cases a with
  | nil =>
   cases es with
   | nil=>cases h;exact ⟨none,by simp [Instr.findKey,hd,Instr.findNow],rfl⟩
   | cons p es=>simp at hl
  | cons e a =>
   obtain ⟨r,f,g⟩:=zo hE hk b w es (e::a) 0 j hl o h;refine ⟨r,?_,g⟩;have hn:Instr.sameNow d kv e.key=none:=by
    rw [<- m]at b;cases d <;> simp [kindOf,TK.isAgg]at b <;> rfl
   simp [Instr.findKey,hd,Instr.findNow,hn,f]
theorem Oz {I:fK} {ρ:Pl} {es:List (AV×AV)} {entries:Array MapEntry} (h:∀ (i:Nat) (k v:AV),es[i]? = some (k,v) -> ∃ e:MapEntry,entries[i]? = some e/\dU T N I ρ k e.key/\dU T N I ρ v e.val) :
 ∀ (i:Nat) (p:AV×AV) (e:MapEntry),es[i]? = some p->entries.toList[i]? = some e->dU T N I ρ p.1 e.key/\dU T N I ρ p.2 e.val:=by
 intro i p e b a;obtain ⟨g,c,d,f⟩:=h i p.1 p.2 b;rw [adn,c]at a;cases a;exact ⟨d,f⟩
theorem Lj (hT:jf P T N) (hE:wZ P T N) {I:fK} {ρ:Pl} {m:Id->Option Ob} {w:World} (hw:dY T N I ρ m w) {id:Id} {es:List (AV×AV)} {t v o:Nat} {k r:AV} {y kv:Value} {ok:Bool} (hm:m id=some (.map es)) (hk:(T t).kind = .map v o)
 (hx:dU T N I ρ (.mp id) y) (a0:dU T N I ρ k kv) (a7:Ai T 40 v=true) (a5:fit T v k=true) (hz:rV (T o).zero=true) (h:Bc T v o es k ok=some r) :
 ∃ u,(Instr.lookup t y kv ok).run P w = .ok u w/\gB T N I ρ r u:=by
 obtain ⟨p,en,cl,d1,d2,d3,d4,d5,d6⟩:=hw.maps id es hm;obtain ⟨a6,a1⟩:=hT.map t v o hk;have hy:y = .map (some p.b):=by
  obtain ⟨cs,x,g⟩:=hx;cases x with
  | mp q hq hx1 a8=>rw [d1]at hq;cases hq;rw [g];simpa [fF]using a8 d2
 subst hy;have hu:∀ w,(underlying t).run P w = .ok (.map v o) w:=by
  obtain ⟨d,hd,x,g⟩:=hT.runUnd (hT.lt (t:=t) (by rw [hk];simp));rw [hk]at g;cases d <;> simp only [kindOf,reduceCtorEq,TK.map.injEq]at g
  obtain ⟨rfl,rfl⟩:=g;exact hd
 simp only [Bc,aaC]at h;obtain ⟨j,hj,h⟩:=h;have s:=Oz d6
 obtain ⟨rf,f1,f2⟩:=EM hT hE a6 a0 w (by rw [aen];exact d4) (λi p e x g=>(s i p e x g).1) hj;have l:=og hT en.isEmpty w 40 10000 v k kv (by omega) a7 a0 a5
 cases j with
 | none =>
  cases f2;obtain ⟨i,z,hi,a2,c1,a9⟩:=hT.zero o a1 hz;have f:(zeroValue o).run P w = .ok z w:=by simp [zeroValue,typeInfo,hi,a2]
  have a:dU T N I ρ (T o).zero z:=by
   have:=(a9 I ρ).pack;rw [hT.zpack o a1 hz i z hi a2]at this;exact this
  simp only at h;cases ok with
  | false =>
   cases h;refine ⟨z,?_,.one a⟩;simp [Instr.lookup,hu,get_map d3,l,f1,f]
  | true =>
   cases h;refine ⟨.tuple #[z,.bool false],?_,?_⟩
   ·simp [Instr.lookup,hu,get_map d3,l,f1,f]
   ·refine .tup _ rfl (λi c hc=>?_)
    match i,hc with
    | 0,hc=>simp at hc;subst hc;simpa using a
    | 1,hc=>simp at hc;subst hc;simpa using DN rfl
    | n+2,hc=>simp at hc
 | some i =>
  obtain ⟨e,_,g2,rfl⟩:=f2;simp only [aeP]at g2;simp only [aaC,abf]at h;obtain ⟨pe,x,g⟩:=h;have hv:=(s i pe e x g2).2
  cases ok with
  | false =>
   refine ⟨e.val,?_,.one (g▸hv)⟩;simp [Instr.lookup,hu,get_map d3,l,f1]
  | true =>
   refine ⟨.tuple #[e.val,.bool true],?_,?_⟩
   ·simp [Instr.lookup,hu,get_map d3,l,f1]
   ·rw [<- g];refine .tup _ rfl (λi c hc=>?_)
    match i,hc with
    | 0,hc=>simp at hc;subst hc;simpa using hv
    | 1,hc=>simp at hc;subst hc;simpa using DN rfl
    | n+2,hc=>simp at hc
theorem dY.freshMap {I:fK} {ρ:Pl} {m:Id->Option Ob} {w w':World} (hw:dY T N I ρ m w) {id:Id} (a2:ρ id=none) {b:Nat} (a7:w.heap.size<=b) {cl:Nat}
 (hold:∀ r,r<w.heap.size->w'.heap[r]? = w.heap[r]?) (q:w'.heap[b]? = some (.map #[] cl)) (ty lim:Nat) :
 dY T N I (nJ ρ id ⟨b,ty,0,lim⟩) (uy m id (.map [])) w':=by
 have g:iJ ρ (nJ ρ id ⟨b,ty,0,lim⟩):=by
  intro a p hp;have d:a≠id:=by rintro rfl;rw [a2]at hp;cases hp
  exact ⟨p,by rw [dS _ _ d,hp],aa3 _,λ_=>rfl⟩
 have hI:∀ o,I b o=none:=λo=>by
  cases h:I b o with
  | none=>rfl
  | some y=>have:=lQ (hw.imm b o y h);omega
 refine ⟨?_,?_,?_,?_,?_,hw.gl⟩
 ·intro a A hA;have d:a≠id:=by rintro rfl;rw [eY]at hA;cases hA
  rw [iI _ _ d]at hA;rcases hw.cells a A hA with ⟨f,n⟩ | ⟨p,ds,f,n,s,t,u,x,d7,d8,d9,d10⟩
  ·exact .inl ⟨by rw [dS _ _ d];exact f,n⟩
  refine .inr ⟨p,ds,by rw [dS _ _ d];exact f,n,s,t,by rw [hold _ (hw.place_lt f)];exact u,x,d7,λi hi=>?_,d9,d10⟩;obtain ⟨seg,z,e2,e3,e4⟩:=d8 i hi;exact ⟨seg,z.mono (iK.refl _) g,e2,e3,e4⟩
 ·intro a es hA;by_cases d:a=id
  ·subst d;rw [eY]at hA;cases hA;exact ⟨_,#[],cl,dW _ _ _,rfl,q,rfl,λj=>hI j,λi k v hi=>by simp at hi⟩
  ·rw [iI _ _ d]at hA;obtain ⟨p,en,cl,f,n,s,t,u,x⟩:=hw.maps a es hA;refine ⟨p,en,cl,by rw [dS _ _ d];exact f,n,by rw [hold _ (hw.place_lt f)];exact s,t,u,λi k v hi=>?_⟩;obtain ⟨e,z,e2,e3⟩:=x i k v hi;exact ⟨e,z,e2.mono (iK.refl _) g,e3.mono (iK.refl _) g⟩
 ·intro a p hp;by_cases d:a=id
  ·subst d;rw [eY];simp
  ·rw [iI _ _ d];rw [dS _ _ d]at hp;exact hw.dom a p hp
 ·intro a c p r hp l e;by_cases d:a=id
  ·by_cases hc:c=id
   ·rw [d,hc]
   ·subst d;rw [dW]at hp;cases hp;rw [dS _ _ hc]at l;have:=hw.place_lt l
    simp only at e;omega
  ·rw [dS _ _ d]at hp;by_cases hc:c=id
   ·subst hc;rw [dW]at l;cases l;have:=hw.place_lt hp
    simp only at e;omega
   ·rw [dS _ _ hc]at l;exact hw.inj a c p r hp l e
 ·intro c o y hy;have h0:=hw.imm c o y hy
  rw [nX (hold c (lQ h0))];exact h0
theorem dY.changeMap {I:fK} {ρ:Pl} {m:Id->Option Ob} {w w':World} (hw:dY T N I ρ m w) {id:Id} {es f:List (AV×AV)} {q:Place} (hm:m id=some (.map es)) (l:ρ id=some q) {j:Array MapEntry} {cl:Nat}
 (a2:w'.heap[q.b]? = some (.map j cl)) (c:∀ b,b≠q.b->w'.heap[b]? = w.heap[b]?) (hl:j.size=f.length)
 (a1:∀ (i:Nat) (k v:AV),f[i]? = some (k,v) -> ∃ e:MapEntry,j[i]? = some e/\dU T N I ρ k e.key/\dU T N I ρ v e.val) :
 dY T N I ρ (uy m id (.map f)) w':=by
 obtain ⟨q',a6,a4,c1,c2,c3,c4,c5,c6⟩:=hw.maps id es hm;rw [l]at c1;cases c1;refine ⟨?_,?_,?_,hw.inj,?_,hw.gl⟩
 ·intro a A hA;have d:a≠id:=by rintro rfl;rw [eY]at hA;cases hA
  rw [iI _ _ d]at hA;rcases hw.cells a A hA with h | ⟨p,ds,g,r,s,t,u,x,d7,d8,d9,d10⟩
  ·exact .inl h
  ·exact .inr ⟨p,ds,g,r,s,t,by rw [c _ (λe=>d (hw.inj a id p q g l e))];exact u,x,d7,d8,d9,d10⟩
 ·intro a a0 hA;by_cases d:a=id
  ·subst d;rw [eY]at hA;cases hA;exact ⟨q,j,cl,l,c2,a2,hl,c5,a1⟩
  ·rw [iI _ _ d]at hA;obtain ⟨p,z,n,g,r,s,t,u,x⟩:=hw.maps a a0 hA;exact ⟨p,z,n,g,r,by rw [c _ (λe=>d (hw.inj a id p q g l e))];exact s,t,u,x⟩
 ·intro a p hp;by_cases d:a=id
  ·subst d;rw [eY];simp
  ·rw [iI _ _ d];exact hw.dom a p hp
 ·intro b o y hy;have h0:=hw.imm b o y hy
  by_cases hb:b=q.b
  ·subst hb;rw [c5 o]at hy;cases hy
  ·rw [nX (c b hb)];exact h0
theorem KL {d:TypeDesc} {u v:Value} (h:Instr.sameNow d u v=some true):Instr.sameBits 10000 v u=true:=by
 unfold Instr.sameNow at h;split at h
 ·split at h;{rename_i k a c b hk;cases hk;simp only [abf]at h;(have:a=b:=by simpa using h);simp [Instr.sameBits,this]};cases h
 ·simp only [abf]at h;rw [beq_toListBytes]at h;simp only [Instr.sameBits,beq_toListBytes];simp at h ⊢;exact h.symm
 ·simp only [abf]at h;have:=eq_of_beq h;simp [Instr.sameBits,this]
 cases h
theorem EG {a:Nat} {k:AV}:∀ {es:List (AV×AV)} {i0 i:Nat},mapIdx T a k es i0=some (some i)->i0<=i /\ ∃ p,es[i - i0]? = some p/\dI T 40 a k p.1=some true
 | [],_,_,h=>by cases h
 | p::es,i0,i,h=>by unfold mapIdx at h;split at h;{rename_i d;cases h;exact ⟨aa3 _,p,by simp,d⟩};{obtain ⟨e,q,b,c⟩:=EG h;exact ⟨by omega,q,by rw [show i - i0=(i - (i0+1))+1 by omega,aeJ];exact b,c⟩};cases h
theorem yE (hT:jf P T N) (hE:wZ P T N) {I:fK} {ρ:Pl} {m:Id->Option Ob} {w:World} (hw:dY T N I ρ m w) {id:Id} {es a2:List (AV×AV)} {t l vt:Nat} {k v:AV} {y kv z:Value} (hm:m id=some (.map es)) (hk:(T t).kind = .map l vt)
 (hx:dU T N I ρ (.mp id) y) (c:dU T N I ρ k kv) (a8:dU T N I ρ v z) (c0:Ai T 40 l=true) (b8:fit T l k=true) (h:Bd T l es k v=some a2) :
 ∃ w',(Instr.mapUpdate t y kv z).run P w = .ok () w'/\Ev I ρ w I ρ w'/\dY T N I ρ (uy m id (.map a2)) w':=by
 obtain ⟨p,en,cl,d1,d2,d3,d4,d5,d6⟩:=hw.maps id es hm;obtain ⟨a7,e4⟩:=hT.map t l vt hk;have hy:y = .map (some p.b):=by
  obtain ⟨cs,s,g⟩:=hx;cases s with
  | mp q hq hx1 c4=>rw [d1]at hq;cases hq;rw [g];simpa [fF]using c4 d2
 subst hy;have hu:∀ w,(underlying t).run P w = .ok (.map l vt) w:=by
  obtain ⟨d,hd,s,g⟩:=hT.runUnd (hT.lt (t:=t) (by rw [hk];simp));rw [hk]at g;cases d <;> simp only [kindOf,reduceCtorEq,TK.map.injEq]at g
  obtain ⟨rfl,rfl⟩:=g;exact hd
 simp only [Bd,aaC]at h;obtain ⟨j,hj,h⟩:=h;have r:=Oz d6
 obtain ⟨rf,f1,f2⟩:=EM hT hE a7 c w (by rw [aen];exact d4) (λi p e s g=>(r i p e s g).1) hj;have a4:=og hT false w 40 10000 l k kv (by omega) c0 c b8
 have c1:p.b<w.heap.size:=(Array.getElem?_eq_some_iff.1 d3).1;have a5:∀ o,Ev I ρ w I ρ { w with heap:=w.heap.setIfInBounds p.b o}:=λo =>
  ⟨iK.refl _,λb o h h'=>absurd h h',iJ.refl _,λa q hq => .inl ⟨a,q,hq,rfl⟩,λb hb c2=>by simp [aeB (c2 id p d1)],by simp,rfl,rfl,⟨rfl,aa3 _⟩⟩
 have n:∀ o b,b≠p.b->({ w with heap:=w.heap.setIfInBounds p.b o}:World).heap[b]? = w.heap[b]? := λo b hb=>by simp [aeB (Ne.symm hb)]
 have f:∀ o,({ w with heap:=w.heap.setIfInBounds p.b o}:World).heap[p.b]? = some o:=λo=>by simp [c1]
 cases j with
 | none =>
  cases f2;cases h;refine ⟨{ w with heap:=w.heap.setIfInBounds p.b (.map (en.push { key:=kv,val:=z,born:=cl}) (cl+1)) },?_,a5 _,?_⟩
  ·simp [Instr.mapUpdate,hu,get_map d3,a4,f1,RV _ d3]
  ·refine hw.changeMap hm d1 (f _) (n _) (by simp [d4]) (λi k' v' hi=>?_);rcases ado i es.length with x | x
   ·rw [ac6 x]at hi;obtain ⟨e,e1,e2,e3⟩:=d6 i k' v' hi;exact ⟨e,by rw [Array.getElem?_push_lt (by omega)];rw [<- e1];simp [show i<en.size by omega],e2,e3⟩
   ·rw [adi x]at hi;have h0:i - es.length=0:=by
     have:=(List.getElem?_eq_some_iff.1 hi).1;simp at this;omega
    rw [h0]at hi;simp at hi;obtain ⟨rfl,rfl⟩:=hi;have b9:i=en.size:=by omega
    subst b9;exact ⟨{ key:=kv,val:=z,born:=cl},by simp,c,a8⟩
 | some i =>
  obtain ⟨e,_,g2,rfl⟩:=f2;simp only [aeP]at g2;cases h;have a3:en[i]? = some e:=by rw [<- g2,adn]
  obtain ⟨_,pe,s,g⟩:=EG hj;simp only [aeP]at s;have a6:=(r i pe e s g2).1
  have c3:Instr.sameBits 10000 e.key kv=true:=by
   obtain ⟨d,_,b7,_⟩:=hT.runUnd a7;cases ha:(T l).kind.isAgg with
   | false=>exact KL (Qw hT c a6 ha g b7)
   | true=>exact (hE I ρ 40 l _ _ _ _ _ w c a6 ha g (aa3 _)).2.2 rfl
  refine ⟨{ w with heap:=w.heap.setIfInBounds p.b (.map (en.modify i λe=>{ e with key:=kv,val:=z}) cl) },?_,a5 _,?_⟩
  ·simp [Instr.mapUpdate,hu,get_map d3,a4,f1,a3,Instr.keyThatStays,c3,RV _ d3]
  ·refine hw.changeMap hm d1 (f _) (n _) (by simp [d4]) (λi' k' v' hi=>?_);rw [List.getElem?_set]at hi;split at hi
   ·rename_i u;subst u;split at hi
    ·cases hi;exact ⟨{ e with key:=kv,val:=z},by simp [Array.getElem?_modify,a3],c,a8⟩
    ·cases hi
   ·rename_i u;obtain ⟨e',e1,e2,e3⟩:=d6 i' k' v' hi;exact ⟨e',by rw [Array.getElem?_modify,Y0 u];exact e1,e2,e3⟩
end
section
variable {P:Program} {T:Nat->TI} {N:Nat}
theorem Nr {t:Nat} {lo hi a:Option Int} {m:Id->Option Ob} {x:AV} {r:AV×List Id×Prop} (h:slA T t lo hi a m x=some r):∀ vs,x ≠ .tup vs:=by rintro vs rfl;cases h
theorem LY {m:Id->Option Ob} {e:Nat} {q:Nat×(Nat->AV)×List Id} {x:AV} {r:Nat×List (Id×Ob)×List Id×Prop} (h:Q7 T m e q x=some r):∀ vs,x ≠ .tup vs:=by rintro vs rfl;cases h
theorem KE {m:Id->Option Ob} {e:Nat} {x:AV} {r:Nat×(Nat->AV)×List Id} (h:Nh T m e x=some r):∀ vs,x ≠ .tup vs:=by rintro vs rfl;cases h
theorem KZ {m:Id->Option Ob} {x:AV} {r:List Id×Option Prop} (h:Qy m x=some r):∀ vs,x ≠ .tup vs:=by rintro vs rfl;cases h
theorem KF {m:Id->Option Ob} {e:Nat} {x:AV} {r:Nat×(Nat->AV)×List Id} (h:Je T m e x=some r):∀ vs,x ≠ .tup vs:=by rintro vs rfl;cases h
theorem Qx {I:fK} {ρ:Pl} {m:Id->Option Ob} {w:World} (hw:dY T N I ρ m w) {x:AV} {y:Value} {r:List Id×Option Prop} (hx:dU T N I ρ x y) (h:Qy m x=some r) (hc:ay r.2):∃ b l c,y = .slice b l c/\l<=c:=by
 unfold Qy at h;split at h
 ·rcases Rep.row_inv hx with ⟨⟨_,rfl⟩,_,_⟩ | ⟨b,off,cap,segs,_,d,_,_,_,_,_,_,rfl⟩;{exact ⟨_,0,0,rfl,aa3 _⟩};exact ⟨_,_,_,rfl,d⟩
 ·obtain ⟨rfl,_⟩:=hx.v;exact ⟨none,0,0,rfl,aa3 _⟩
 ·rename_i id n i len cap;split at h;{rename_i B hm;cases h;simp only [ay]at hc;rcases Rep.own_inv hx with ⟨rfl,_,_,_⟩ | ⟨q,a,hn,hx⟩;{exact ⟨none,0,0,rfl,aa3 _⟩};obtain ⟨e,cs,c1,c2,c3,_⟩:=hw.cellsAt hm a;rw [a]at c1;cases c1;obtain ⟨c,rfl,g1,_⟩:=hx (by rw [c3,hc]);exact ⟨_,_,_,rfl,g1⟩};cases h
 cases h
theorem Ef (hT:jf P T N) (hE:wZ P T N) {en:Entry} {I:fK} {ρ:Pl} {st:St} {a:Act} {w:World} (hs:gJ T N en I ρ st a w) {G:D} (s:G.tr) {gs:List CG} {o:Oper} {r:R×List CG}
 (h:Zb T st G gs o=some r) (hc:ay r.1.c):Did P T N o I ρ st.m r.1 (λw=>(execOp a.eval o).run P w) w:=by
 have hw:=hs.wr;unfold Zb at h;unfold execOp;cases f9:o.op <;> rw [f9]at h <;> (try dsimp only at h) <;> try (cases h;done)
 case slice t x lo hi mx =>
  simp only [aaC]at h;obtain ⟨b,h1,l,h2,hh,h3,q,h4,r',h5,h⟩:=h;obtain ⟨hb,h⟩:=aB h;cases h;simp only [aI]at hc;obtain ⟨k1,k2,k3,k4,k5,k6⟩:=hc;have f5:(Ac q.1 || !Ac hh.1)=true:=hb
  obtain ⟨u,g1,g2⟩:=Ul hT hw ((bn hs s h1 k1).rep1 (Nr h5)) (AQ hs s h2 k2) (AQ hs s h3 k3) (AQ hs s h4 k4) f5 h5 (nG s k6) k5;exact ⟨_,w,I,ρ,fD g1,.inl ⟨u,rfl,g2⟩,Ev.refl _ _ _,hw⟩
 case buildSlice t len ps =>
  split at h
  ·rename_i g c1;obtain ⟨_,h⟩:=aB h;simp only [aaC]at h;obtain ⟨l,h1,h⟩:=h;split at h
   ·rename_i e hk;obtain ⟨hb,h⟩:=aB h;cases h;simp only [abe,adp]at hb;obtain ⟨⟨⟨⟨⟨⟨b0,b1⟩,b2⟩,b4⟩,b3⟩,b5⟩,b6⟩:=hb;have he:=hT.slice t e hk
    have d7:=kF b4;obtain ⟨hl,d0⟩:=tq hs s h1 hc;simp only [adF]at hl;obtain ⟨i,z,hi,hz,e0,e6⟩:=hT.zero e he b2;obtain ⟨i',d4,j1,j0⟩:=hT.info e he;rw [hi]at d4;cases d4;have e5:=rC hT he (e6 I ρ) e0
    have g8:z.cells.size=(T e).size:=by simpa using e5
    have h8:len*(T e).size<=16777216:=by simpa using b1
    have c9:=hw.none_place (lI b3);obtain ⟨cs',f1,f2,f3⟩:=Ip (T:=T) (N:=N) (I:=I) (ρ:=ρ) (e:=e) (len:=len) rfl he ((ps.toList.map (·.1)).zip l.1) (ps.toList.map λx=>a.eval x.2) (λ_=>(T e).zero)
     (
      madeCells z.cells (len*(T e).size)) (λp hp=>by
      have:=b6 p hp;exact ⟨kF this.1,this.2⟩) (by simp [hl]) (λj p v hp hv=>by
      have d6:=b6 p (ac8 hp);rw [aem]at hp;obtain ⟨g0,g4⟩:=hp;simp only [ady,ade]at g0 hv;obtain ⟨q',g6,rfl⟩:=hv;have hr:=((d0 j q'.2 p.2 (by simp [g6]) g4).rep1 (kV d6.2)).cells
      exact ⟨_,hr,by simp,rC hT he hr d6.2⟩) (size_madeCells _ _) (λi hi=>⟨z.cells.toList,e6 I ρ,e0,e5,λo ho=>vI g8 ho (by
       have:(i+1)*(T e).size<=len*(T e).size:=ab7 _ hi;rw [adK]at this;omega)⟩)
    have g5:iJ ρ (nJ ρ (site o) ⟨w.heap.size,e,len,cs'.size⟩):=by
     intro q p hp;have ha:q≠site o:=by rintro rfl;rw [c9]at hp;cases hp
     exact ⟨p,by rw [dS _ _ ha,hp],aa3 _,λ_=>rfl⟩
    have c8:=dY.fresh (w':=w.alloc (.cells cs' e)) (B:=⟨e,len,wB ((ps.toList.map (·.1)).zip l.1) (T e).zero,0⟩) (b:=w.heap.size) (cs:=cs') hw c9 (aa3 _) (λr hr=>fM w _ hr) (iZ w _) he (by rw [f2];exact aa3 _) rfl
     (
      λi hi=>by
      obtain ⟨seg,e1,e2,e3,e4⟩:=f3 i hi;exact ⟨seg,e1.mono (iK.refl _) g5,e2,e3,e4⟩)
    have c2:(((ps.toList.map (·.1)).zip l.1).map (·.1)).zip (ps.toList.map λx=>a.eval x.2)=(ps.map λx=>(x.1,a.eval x.2)).toList:=by
     rw [List.map_fst_zip (by simp [hl])];simp [List.zip_map',aev]
    rw [c2]at f1;refine ⟨.value (.slice (some ⟨w.heap.size,0,none⟩) len len),w.alloc (.cells cs' e),I,nJ ρ (site o) ⟨w.heap.size,e,len,cs'.size⟩,nK ?_,.inl ⟨_,rfl,.one ⟨[_],.own (ρ:=nJ ρ (site o) ⟨w.heap.size,e,len,cs'.size⟩) _ (dW _ _ _) (aa3 _) rfl (λ_=>⟨len,?_⟩),rfl⟩⟩,Ev.fresh c9 (aa3 _) (λr hr=>fM w _ hr) (by simp) rfl rfl ⟨rfl,by first | exact aa3 _ | exact aeG _⟩,by simpa [iP]using c8.2⟩
    ·have d5:¬ 16777216<len*(T e).size:=by omega
     by_cases h0:len*(T e).size=0
     ·have f8:madeCells z.cells (len*(T e).size) = #[]:=aek (by rw [size_madeCells,h0]);have f1':Instr.fill (λi=>some (i*(T e).size,(T e).size)) #[] (ps.map λx=>(x.1,a.eval x.2)).toList=some cs':=by rw [f8]at f1;exact f1
      simp only [aev]at f1';have hr0:(Array.map (λ_=>(default:Value)) (Array.range 0)) = #[]:=aek (by simp)
      simp [Instr.buildSlice,(hT.sli hk).2,hT.runSize he,d5,h0,hr0,f1',newRow]
     ·have f1':Instr.fill (λi=>some (i*(T e).size,(T e).size)) (madeCells z.cells (len*(T e).size)) (ps.map λx=>(x.1,a.eval x.2)).toList=some cs':=f1;simp only [aev,madeCells]at f1';simp [Instr.buildSlice,(hT.sli hk).2,hT.runSize he,d5,h0,zeroValue,typeInfo,hi,hz,f1',newRow]
    ·have j2:len*1<=len*(T e).size:=aez _ d7;exact ⟨by simp [fF],aa3 _,by omega,by omega,by simp only [f2,acY];exact aa3 _,λ_=>by simp only [f2,acY],λk hk=>by cases hk⟩
   ·cases h
  ·cases h
 case makeMap t rv =>
  cases rv with
  | some _=>cases h
  | none =>
   obtain ⟨hb,h⟩:=aB h;cases h;simp only [abe]at hb;have hn:=hw.none_place (lI hb.1.2)
   have c8:=dY.freshMap (w':=w.alloc (.map #[] 0)) hw hn (b:=w.heap.size) (cl:=0) (aa3 _) (λr hr=>fM w _ hr) (iZ w _) 0 0;refine ⟨.value (.map (some w.heap.size)),w.alloc (.map #[] 0),I,nJ ρ (site o) ⟨w.heap.size,0,0,0⟩,by rfl,.inl ⟨_,rfl,.one ⟨[_],.mp _ (dW _ _ _) rfl (λ_=>rfl),rfl⟩⟩,Ev.fresh hn (aa3 _) (λr hr=>fM w _ hr) (by simp) rfl rfl ⟨rfl,by first | exact aa3 _ | exact aeG _⟩,by simpa [iP]using c8⟩
 case lookup t x k ok =>
  split at h
  ·rename_i g c1;simp only [aaC]at h;obtain ⟨b,h1,b2,h2,h⟩:=h;split at h
   ·rename_i id kt vt hb hk;split at h
    ·rename_i es hm;obtain ⟨d,h⟩:=aB h;cases h;simp only [abe]at d;simp only [aI]at hc;obtain ⟨k1,k2,k3⟩:=hc;have hx:=bn hs s h1 k1
     rw [hb]at hx;have f6:=(bn hs s h2 k2).rep1 (kV d.1.2)
     obtain ⟨u,g1,g2⟩:=Lj hT hE hw hm hk (hx.rep1 (λ_=>by simp)) f6 d.1.1 d.1.2 d.2 (nG s k3);exact ⟨_,w,I,ρ,fD g1,.inl ⟨u,rfl,g2⟩,Ev.refl _ _ _,hw⟩
    ·cases h
   ·cases h
  ·cases h
 case mapUpdate t x k v =>
  split at h
  ·rename_i g c1;simp only [aaC]at h;obtain ⟨b,h1,b2,h2,b3,h3,e9,h4,h⟩:=h;split at h
   ·rename_i id kt vt hb hk;split at h
    ·rename_i es hm;obtain ⟨d,h⟩:=aB h;cases h;simp only [abe]at d;simp only [aI]at hc;obtain ⟨k1,k2,k3,k4⟩:=hc;have hx:=bn hs s h1 k1
     rw [hb]at hx;obtain ⟨⟨⟨⟨b1,c4⟩,a8⟩,b4⟩,b5⟩:=d;obtain ⟨w',g1,g2,g3⟩:=yE hT hE hw hm hk (hx.rep1 (λ_=>by simp)) ((bn hs s h2 k2).rep1 (kV a8)) ((bn hs s h3 k3).rep1 (kV b4)) c4 a8 k4;exact ⟨_,w',I,ρ,xB g1,.inr ⟨rfl,IJ b5⟩,g2,by simpa [iP]using g3⟩
    ·cases h
   ·cases h
  ·cases h
 case insert t x k v =>
  split at h
  ·rename_i g c1;simp only [aaC]at h;obtain ⟨b,h1,b2,h2,b3,h3,e9,h4,h⟩:=h;split at h
   ·rename_i id kt vt hb hk;split at h
    ·rename_i es hm;obtain ⟨d,h⟩:=aB h;cases h;simp only [abe]at d;simp only [aI]at hc;obtain ⟨k1,k2,k3,k4⟩:=hc;have hx:=bn hs s h1 k1
     rw [hb]at hx;obtain ⟨⟨⟨⟨b1,c4⟩,a8⟩,b4⟩,b5⟩:=d;obtain ⟨w',g1,g2,g3⟩:=yE hT hE hw hm hk (hx.rep1 (λ_=>by simp)) ((bn hs s h2 k2).rep1 (kV a8)) ((bn hs s h3 k3).rep1 (kV b4)) c4 a8 k4;exact ⟨_,w',I,ρ,xB g1,.inr ⟨rfl,IJ b5⟩,g2,by simpa [iP]using g3⟩
    ·cases h
   ·cases h
  ·cases h
 case call c =>
  split at h
  ·rename_i x y t t' a2 f a3;simp only [aaC]at h;obtain ⟨b,h1,b',h2,h⟩:=h;split at h
   ·rename_i e hk;simp only [aaC]at h;obtain ⟨q,hq,r',b8,h⟩:=h;obtain ⟨d,h⟩:=aB h;cases h;simp only [abe]at d;have c5:=abJ d.1.2
    subst c5;have ha:c.args = #[x,y]:=by apply ad4;simpa using f
    have ht:c.argTypes = #[t,t]:=by apply ad4;simpa using a3
    simp only [aI]at hc;obtain ⟨k1,k2,k3,k4,k5⟩:=hc;obtain ⟨w',I',ρ',g1,g2,g3⟩:=Q8 (P:=P) (ty:=o.type) hT hw hk ((bn hs s h1 k1).rep1 (LY b8)) ((bn hs s h2 k2).rep1 (KE hq)) hq b8 k5 k3 k4;exact ⟨.value (.int .i64 r'.1),w',I',ρ',by simp [resolve,a2,invoke,builtin,ha,ht,g1],.inl ⟨_,rfl,fZ rfl⟩,g2,g3⟩
   ·cases h
  ·rename_i x y t t' a2 f a3;split at h
   ·rename_i g c1;obtain ⟨_,h⟩:=aB h;simp only [aaC]at h;obtain ⟨b,h1,b',h2,h⟩:=h;split at h
    ·rename_i e hk;simp only [aaC]at h;obtain ⟨q,hq,r',b8,h⟩:=h;obtain ⟨d,h⟩:=aB h;cases h;simp only [abe]at d;have c5:=abJ d.1
     subst c5;have ha:c.args = #[x,y]:=by apply ad4;simpa using f
     have ht:c.argTypes = #[t,t]:=by apply ad4;simpa using a3
     simp only [aI]at hc;obtain ⟨k1,k2,k3,k4,k5⟩:=hc;obtain ⟨sb,sl,sc,hy,f7⟩:=Qx hw ((bn hs s h1 k1).rep1 (KZ b8)) b8 k4;obtain ⟨a0,c0,news,g1,_⟩:=yR (P:=P) hT hw (kF d.2) ((bn hs s h2 k2).rep1 (KF hq)) hq k3;obtain ⟨ti,g7,_⟩:=hT.info e (hT.slice t e hk);have h0:=yB (P:=P) t o.type e ti (hT.sli hk).1 g7 sb sl sc f7 a0 c0 w
     have d9:(Builtin.append_ #[t,t] o.type #[a.eval x,a.eval y]).run P w = .ok (a.eval x) w:=by
      rw [hy];simp only [ay]at k5;rcases g1 with g1 | ⟨g1,_⟩
      ·rw [g1,k5];exact h0.1
      ·rw [g1];exact h0.2
     exact ⟨.value (a.eval x),w,I,ρ,by simp [resolve,a2,invoke,builtin,ha,ht,d9],.inl ⟨_,rfl,bn hs s h1 k1⟩,Ev.refl _ _ _,by simpa [iP]using hw⟩
    ·cases h
   ·cases h
  ·rename_i x t a2 f a3;simp only [aaC]at h;obtain ⟨b,h1,h⟩:=h;split at h
   ·rename_i id n i len cap e hb hk;split at h
    ·rename_i B hm;obtain ⟨d,h⟩:=aB h;cases h;simp only [abe]at d;have f0:=abJ d.1.2
     subst f0;have ha:c.args = #[x]:=by apply ad4;simpa using f
     have ht:c.argTypes = #[t]:=by apply ad4;simpa using a3
     simp only [aI]at hc;obtain ⟨k1,k2,k3⟩:=hc;have hx:=bn hs s h1 k1
     rw [hb]at hx;obtain ⟨w',g1,g2,g3⟩:=Ph (P:=P) (ty:=o.type) hT hw hm hk (hx.rep1 (λ_=>by simp)) (by simpa [nC,hm,ay]using k2) k3 d.2;exact ⟨.value (.tuple #[]),w',I,ρ,by simp [resolve,a2,invoke,builtin,ha,ht,g1],.inl ⟨_,rfl,.tup _ rfl (λi c hi=>by simp at hi)⟩,g2,by simpa [iP]using g3⟩
    ·cases h
   ·cases h
  ·cases h
theorem YC {st:St} {G:D} (f:¬ G.tr) {gs:List CG} {o:Oper} {r:R×List CG} (h:Zb T st G gs o=some r):r.1.d=[]:=by
 unfold Zb at h;cases j:o.op <;> rw [j]at h <;> (try dsimp only at h) <;> try (cases h;done)
 case slice t x lo hi mx=>simp only [aaC]at h;obtain ⟨b,e,l,g,hh,p,q,s,u,z,h⟩:=h;obtain ⟨hb,h⟩:=aB h;cases h;rfl
 case buildSlice t len ps=>split at h;{obtain ⟨_,h⟩:=aB h;simp only [aaC]at h;obtain ⟨l,e,h⟩:=h;split at h;{obtain ⟨hb,h⟩:=aB h;simp only [abe]at hb;exact absurd (oN hb.1.1.1.1.1.1) f};cases h};cases h
 case makeMap t rv=>cases rv with| some _=>(cases h)| none=>obtain ⟨hb,h⟩:=aB h;simp only [abe]at hb;exact absurd (oN hb.1.1) f
 case lookup t x k ok=>split at h;{simp only [aaC]at h;obtain ⟨b,e,n,g,h⟩:=h;split at h;{split at h;{obtain ⟨a,h⟩:=aB h;cases h;rfl};cases h};cases h};cases h
 case mapUpdate t x k v=>split at h;{simp only [aaC]at h;obtain ⟨b,e,n,g,b3,p,i,s,h⟩:=h;split at h;{split at h;{obtain ⟨a,h⟩:=aB h;simp only [abe]at a;exact absurd (oN a.1.1.1.1) f};cases h};cases h};cases h
 case insert t x k v=>split at h;{simp only [aaC]at h;obtain ⟨b,e,n,g,b3,p,i,s,h⟩:=h;split at h;{split at h;{obtain ⟨a,h⟩:=aB h;simp only [abe]at a;exact absurd (oN a.1.1.1.1) f};cases h};cases h};cases h
 case call c=>split at h;{simp only [aaC]at h;obtain ⟨b,e,w,g,h⟩:=h;split at h;{simp only [aaC]at h;obtain ⟨q,y,u,m,h⟩:=h;obtain ⟨a,h⟩:=aB h;simp only [abe]at a;exact absurd (oN a.1.1) f};cases h};{split at h;{obtain ⟨_,h⟩:=aB h;simp only [aaC]at h;obtain ⟨b,e,w,g,h⟩:=h;split at h;{simp only [aaC]at h;obtain ⟨q,y,u,m,h⟩:=h;obtain ⟨a,h⟩:=aB h;cases h;rfl};cases h};cases h};{simp only [aaC]at h;obtain ⟨b,e,h⟩:=h;split at h;{split at h;{obtain ⟨a,h⟩:=aB h;simp only [abe]at a;exact absurd (oN a.1.1) f};cases h};cases h};cases h
end
section
variable {P:Program} {T:Nat->TI} {N:Nat}
theorem acK {AC:Rq} {st:St} {G:D} (e:¬ G.tr) {gs:List CG} {o:Oper} {r:R×List CG} (h:evK T AC st G gs o=some r):r.1.d=[]:=by
 unfold evK at h;split at h
 ·rename_i c g f j;split at h;{simp only [aaC]at h;obtain ⟨m,n,l,p,h⟩:=h;split at h;{simp only [aaC]at h;obtain ⟨fz,b,h⟩:=h;obtain ⟨hb,h⟩:=aB h;cases h;rfl};{cases a:Lr g with| true=>simp only [a,adv,aaC]at h;obtain ⟨k,b,B,i,h⟩:=h;obtain ⟨hb,h⟩:=aB h;simp only [abe]at hb;exact absurd (oN hb.1.1.1) e| false=>simp only [a,ads,aaC]at h;obtain ⟨k,b,B,i,h⟩:=h;obtain ⟨hb,h⟩:=aB h;simp only [abe]at hb;exact absurd (oN hb.1.1.1.1.1) e};cases h};cases h
 cases h
theorem Iw {st:St} {G:D} {o:Oper} {r:R} (h:Tv T st G o=some r):G.tr:=by
 unfold Tv at h;exact oN (aB h).1
theorem acJ {AC:Rq} {st:St} {G:D} (c:¬ G.tr) {gs:List CG} {o:Oper} {r:R×List CG} (h:PL T AC st G gs o=some r):r.1.d=[]:=by
 unfold PL at h;split at h
 ·simp only [aaC,abf]at h;obtain ⟨e,b,rfl⟩:=h;rfl
 ·simp only [aaC,abf]at h;obtain ⟨e,b,rfl⟩:=h;exact absurd (Iw b) c
 ·exact YC c h
 ·split at h;{cases a:Ia _ with| true=>rw [a]at h;exact YC c h| false=>rw [a]at h;simp only [ads,aaC,abf]at h;obtain ⟨e,b,rfl⟩:=h;exact absurd (Iw b) c};simp only [aaC,abf]at h;obtain ⟨e,b,rfl⟩:=h;exact absurd (Iw b) c
 ·split at h;{cases a:OB _ with| true=>rw [a]at h;exact YC c h| false=>rw [a]at h;simp only [ads,aaC,abf]at h;obtain ⟨e,b,rfl⟩:=h;exact absurd (Iw b) c};simp only [aaC,abf]at h;obtain ⟨e,b,rfl⟩:=h;exact absurd (Iw b) c
 exact acK c h
theorem Gm {a:Act} {d k:Nat} {v:Value} (hd:d<a.tmps.size):(a.put (some d) v).tmps.getD k undef=if k=d then v else a.tmps.getD k undef:=by
 simp only [Act.put];by_cases hk:k=d
 ·subst hk;simp [hd]
 rw [Y0 hk];simp [aeB (Ne.symm hk)]
def St.after (st:St) (o:Oper) (G:D) (r:R):St:={ (st.put o.dst (G,r.v))with m:=iP st.m r.d}
theorem Dt (st:St) (o:Oper) (G:D) (r:R) (k:Nat):(st.after o G r).t k=match o.dst with | some d=>if k=d then some (G,r.v)else st.t k | none=>st.t k:=by
 unfold St.after St.put;cases o.dst with| none=>rfl| some d=>simp only [Gt];by_cases h:k=d;{subst h;simp};simp [h,kJ h]
theorem pR {e:Entry} {I I':fK} {ρ ρ':Pl} {st:St} {a:Act} {w w':World} (c:gJ T N e I ρ st a w) {o:Oper} {G:D} {r:R} {v:Value} (j:Dl e.nt o.dst=true)
 (f:o.dst=none\/((G.tr->gB T N I' ρ' r.v v)/\(¬ G.tr->v=undef))) (b:Ev I ρ w I' ρ' w') (hw:dY T N I' ρ' (iP st.m r.d) w'):gJ T N e I' ρ' (st.after o G r) (a.put o.dst v) w' where
 wr:=hw
 tm:=λt d x ht=>by rw [Dt]at ht;cases hd:o.dst with| none=>rw [hd]at ht;obtain ⟨g,i⟩:=c.tm t d x ht;exact ⟨λh=>(g h).mono b.imm b.pl,i⟩| some k=>rw [hd]at ht f j;simp only at ht;(have hk:k<a.tmps.size:=by rw [c.nt];simpa [Dl,adV]using j);rw [Gm hk];by_cases l:t=k;{rw [aaU l]at ht ⊢;cases ht;rcases f with f | f;{cases f};exact f};rw [Y0 l]at ht ⊢;obtain ⟨g,i⟩:=c.tm t d x ht;exact ⟨λh=>(g h).mono b.imm b.pl,i⟩
 nt:=by rw [<- c.nt];cases o.dst <;> simp [Act.put]
 df:=by have g:=c.df.1.ev b;have i:=c.df.2;cases o.dst <;> exact ⟨g,i⟩
 ev:=c.ev.trans b
 eb:=c.eb
theorem vJ {e:Entry} {I:fK} {ρ:Pl} {st:St} {a:Act} {w:World} (r:gJ T N e I ρ st a w) {ops:Array Oper} {o:Oper} {G:D} (h:oK ops.toList st o=some G):G.tr↔Region.wanted o (yielded ops a.tmps)=true:=by
 unfold oK at h;unfold Region.wanted;split at h
 ·rename_i hg;cases h;simp [hg,D.tr]
 rename_i j n hg;simp only [aaC]at h;obtain ⟨u,t,d,p,f⟩:=h;(have k:ops[j]? = some u:=by rw [<- t,adn]);(have l:∀ x:Value,x≠undef->a.tmps.getD d undef=x->a.tmps[d]? = some x:=by intro x hx h;cases hd:a.tmps[d]? with| none=>simp [hd]at h;exact absurd h.symm hx| some y=>simp [hd]at h;rw [h]);(have m:∀ b,Value.bool b≠undef:=λb=>by simp [undef]);(have s:∀ x,(a.tmps.getD d undef = .bool x->yielded ops a.tmps j=some x):=by intro x hx;simp [yielded,k,p,l _ (m x) hx]);(have hn:a.tmps.getD d undef=undef->yielded ops a.tmps j=none:=by intro hx;cases hd:a.tmps[d]? with| none=>simp [yielded,k,p,hd]| some y=>simp [hd]at hx;subst hx;simp [yielded,k,p,hd,undef]);(have c:∀ (w b:Bool),cond w b (!b)=true↔b=w:=by intro w b;cases w <;> cases b <;> simp);split at f;{rename_i b hb;(have f:G = .when (cond n b (!b)):=by cases n <;> (simp only [adv,ads,abf]at f;exact f.symm));subst f;obtain ⟨e,_⟩:=((r.tm d _ _ hb).1 trivial).v;simp only [hg,s b e,D.tr,c,adh,abf]};{rename_i g b hb;(have f:G = .when (g&&cond n b (!b)):=by cases n <;> (simp only [adv,ads,abf]at f;exact f.symm));subst f;by_cases i:g=true;{obtain ⟨e,_⟩:=((r.tm d _ _ hb).1 i).v;simp only [hg,s b e,D.tr,i,adP,c,adh,abf]};have e:=(r.tm d _ _ hb).2 i;(have q:g=false:=by simpa using i);simp [hg,hn e,D.tr,q]};cases f
theorem OX {AC:Rq} {st:St} {G:D} {gs:List CG} {o:Oper} {r:R×List CG} (h:PL T AC st G gs o=some r):∀ c,o.op ≠ .defer c:=by
 intro c hc;simp [PL,cls,evR,hc]at h
def l9 (r:Option Nat):Fence:={ Fence.wide with round:=r}
theorem Ji {r:Option Nat} {n:Nat} {f:FuncId} {args:Array Value} {w:World} {R:Ending->World->Prop}:CallsIn (l9 r) n P f args w R↔Calls P f args w R:=callsIn_wide (n:=n)
theorem Aw (hT:jf P T N) (hE:wZ P T N) {e:Entry} {I:fK} {ρ:Pl} {st:St} {a:Act} {w:World} (b:gJ T N e I ρ st a w) {ops:Array Oper} {o:Oper} {G:D} {gs:List CG} {r:R×List CG}
 (hg:oK ops.toList st o=some G) (h:PL T (AC P T N) st G gs o=some r) (hc:ay r.1.c) (i:Dl e.nt o.dst=true) {K:Act->World->Prop} {Q:Exit->Act->World->Prop}
 (q:∀ I' ρ' x w',gJ T N e I' ρ' (st.after o G r.1) x w'->K x w') (rd:Option Nat) (n:Nat) :
 if Region.wanted o (yielded ops a.tmps)=true then o.wpIn (l9 rd) n P a w K Q else K (a.put o.dst undef) w:=by
 have k:=vJ b hg;by_cases d:G.tr
 ·rw [aaU (k.1 d)];unfold Oper.wpIn;refine ⟨λ_ _=>trivial,?_⟩;rw [Oper.semAt_eq _ _ _ (OX h)];have did:∀ {t:R},t=r.1->Did P T N o I ρ st.m t (λw=>(execOp a.eval o).run P w) w->Oper.uponIn (l9 rd) n P o a K Q ((execOp a.eval o).run P w):=by
   rintro t rfl ⟨nx,w',I',ρ',p,l,y,z⟩;simp only at p;rw [p];rcases l with ⟨u,rfl,l⟩ | ⟨rfl,l⟩
   ·exact q _ _ _ _ (pR b i (.inr ⟨λ_=>l,λh=>absurd d h⟩) y z)
   ·exact q _ _ _ _ (pR b i (.inl l) y z)
  unfold PL at h;split at h
  ·simp only [aaC,abf]at h;obtain ⟨s,j,rfl⟩:=h;obtain ⟨u,p,l⟩:=Vt hT hE b d j hc;rw [p];exact q _ _ _ _ (pR b i (.inr ⟨λ_=>l,λh=>absurd d h⟩) (Ev.refl _ _ _) b.wr)
  ·simp only [aaC,abf]at h;obtain ⟨s,j,rfl⟩:=h;exact did rfl (wP hT b j hc).2
  ·exact did rfl (Ef hT hE b d h hc)
  ·split at h
   ·cases g:Ia _ with
    | true=>rw [g]at h;exact did rfl (Ef hT hE b d h hc)
    | false =>
     rw [g]at h;simp only [ads,aaC,abf]at h;obtain ⟨s,j,rfl⟩:=h;exact did rfl (wP hT b j hc).2
   ·simp only [aaC,abf]at h;obtain ⟨s,j,rfl⟩:=h;exact did rfl (wP hT b j hc).2
  ·split at h
   ·cases g:OB _ with
    | true=>rw [g]at h;exact did rfl (Ef hT hE b d h hc)
    | false =>
     rw [g]at h;simp only [ads,aaC,abf]at h;obtain ⟨s,j,rfl⟩:=h;exact did rfl (wP hT b j hc).2
   ·simp only [aaC,abf]at h;obtain ⟨s,j,rfl⟩:=h;exact did rfl (wP hT b j hc).2
  ·obtain ⟨f,vs,p,l⟩:=Vu hT b d h hc;simp only at p;rw [p];refine ⟨λh=>(by cases h),Ji.2 (l.mono ?_)⟩;rintro ex w' ⟨v,I',ρ',rfl,g1,g2,g3⟩;exact q _ _ _ _ (pR b i (.inr ⟨λ_=>g2,λh=>absurd d h⟩) g1 g3)
 ·rw [Y0 (λe=>d (k.2 e))];have hd:=acJ d h
  exact q _ _ _ _ (pR b i (.inr ⟨λh=>absurd h d,λ_=>rfl⟩) (Ev.refl _ _ _) (by rw [hd];exact b.wr))
theorem J8 (hT:jf P T N) (hE:wZ P T N) {e:Entry} {ops:Array Oper} {Q:Exit->Act->World->Prop}:∀ (l:List Oper) (s s':RS) {I:fK} {ρ:Pl} {a:Act} {w:World},gJ T N e I ρ s.st a w ->
 VK T (AC P T N) e.nt ops.toList l s=some s'->ay s'.c->(∀ I' ρ' i w',gJ T N e I' ρ' s'.st i w'->Q .normal i w')->(rd:Option Nat)->(n:Nat)->ay s.c/\wpListIn (l9 rd) n P ops Q l a w
 | [],s,s',I,ρ,a,w,hs,h,hc,hQ,rd,n=>by cases h;exact ⟨hc,hQ _ _ _ _ hs⟩
 | o::r,s,s',I,ρ,a,w,hs,h,hc,hQ,rd,n=>by simp only [VK,aaC]at h;obtain ⟨G,m,x,p,d⟩:=h;obtain ⟨k,d⟩:=aB d;have key:∀ {I':fK} {ρ':Pl} {i:Act} {w':World},gJ T N e I' ρ' (s.st.after o G x.1) i w'->ay (fP s.c x.1.c)/\wpListIn (l9 rd) n P ops Q r i w':=λg=>J8 hT hE r _ s' g d hc hQ rd n;(have f:ay (fP s.c x.1.c):=by clear key;(have:∀ (l:List Oper) (j:RS),VK T (AC P T N) e.nt ops.toList l j=some s'->ay j.c:=by intro l;induction l with| nil=>intro j h;cases h;exact hc| cons o r q=>intro j h;simp only [VK,aaC]at h;obtain ⟨G,m,x,p,d⟩:=h;obtain ⟨_,d⟩:=aB d;have:=q _ d;simp only at this;rw [aI]at this;exact this.1);exact this _ _ d);rw [aI]at f;refine ⟨f.1,?_⟩;have b:=Aw (ops:=ops) (Q:=Q) (K:=wpListIn (l9 rd) n P ops Q r) hT hE hs m p f.2 k (λI' ρ' i w' g=>(key g).2) rd n;unfold wpListIn;by_cases hw:Region.wanted o (yielded ops a.tmps)=true;{rw [aaU hw]at b ⊢;exact b};rw [Y0 hw]at b ⊢;exact ⟨λ_ _=>trivial,b⟩
end
def tmpsOf (o:Oper):List Nat:=o.op.operands.toList.filterMap fun | .tmp t=>some t | _=>none
theorem FW {o:Oper} {st st':St} (h:∀ k∈tmpsOf o,st'.t k=st.t k) {x:Operand} (hx:x∈o.op.operands):ev st' x=ev st x:=by
 cases x with| tmp t=>refine h t ?_;simp only [tmpsOf,List.mem_filterMap];exact ⟨.tmp t,by simpa using hx,rfl⟩| _=>rfl
theorem qP {st st':St} {G:D}:∀ {xs:List Operand},(∀ x∈xs,ev st' x=ev st x)->needs G st' xs=needs G st xs
 | [],_=>rfl
 | x::xs,h=>by simp only [needs];rw [h x (by simp),qP (λy a=>h y (by simp [a]))]
theorem DW {st st':St} {G:D} {x:Option Operand} (h:∀ y,x=some y->ev st' y=ev st y):Oi G st' x=Oi G st x:=by
 cases x with| none=>rfl| some y=>simp only [Oi];rw [h y rfl]
section
variable {T:Nat->TI} {m m':Id->Option Ob}
theorem Ya {t:Nat} {x:AV} {r:AV×List Id} (h:Vd T m t x=some r) (hm:∀ id∈r.2,m' id=m id):Vd T m' t x=some r/\nP m' x=nP m x:=by
 unfold Vd at h ⊢;split at h
 ·rename_i id n i p;have a:=h;split at h;{obtain ⟨hb,h⟩:=aB h;cases h;have e:=hm id (by simp);simp only [nP,nC,e];exact ⟨a,tt⟩};cases h
 ·exact ⟨h,rfl⟩
 cases h
theorem OV {t k:Nat} {x:AV} {r:AV×List Id} (h:Bz T t k m x=some r) (hm:∀ id∈r.2,m' id=m id):Bz T t k m' x=some r/\nP m' x=nP m x:=by
 unfold Bz at h ⊢;split at h
 ·rename_i id n i p;have a:=h;split at h;{obtain ⟨hb,h⟩:=aB h;cases h;have e:=hm id (by simp);simp only [nP,nC,e];exact ⟨a,tt⟩};cases h
 ·exact ⟨h,rfl⟩
 cases h
theorem Vj {t:Nat} {j:Int} {x:AV} {r:AV×List Id×Prop} (h:QH T t j m x=some r) (hm:∀ id∈r.2.1,m' id=m id):QH T t j m' x=some r/\nP m' x=nP m x:=by
 unfold QH at h ⊢;split at h
 ·rename_i id n i p;have a:=h;split at h;{obtain ⟨hb,h⟩:=aB h;cases h;have e:=hm id (by simp);simp only [nP,nC,e];exact ⟨a,tt⟩};cases h
 ·exact ⟨h,rfl⟩
 ·exact ⟨h,rfl⟩
 ·rename_i id n i len cap;have a:=h;split at h;{obtain ⟨hb,h⟩:=aB h;cases h;have e:=hm id (by simp);simp only [nP,nC,e];exact ⟨a,tt⟩};cases h
 ·rename_i id n i p lo len hi;have a:=h;split at h;{obtain ⟨hb,h⟩:=aB h;cases h;have e:=hm id (by simp);simp only [nP,nC,e];exact ⟨a,tt⟩};cases h
 cases h
theorem Vb {t:Nat} {x:AV} {r:AV×List Id} (h:Ea T m t x=some r) (hm:∀ id∈r.2,m' id=m id):Ea T m' t x=some r/\nP m' x=nP m x:=by
 unfold Ea at h;split at h
 ·rename_i hk;cases h;exact ⟨by simp [Ea,hk],rfl⟩
 ·rename_i id n i len cap hk;split at h;{rename_i B hB;cases h;have e:=hm id (by simp);exact ⟨by simp [Ea,hk,e,hB],by simp only [nP,nC,e]⟩};cases h
 ·rename_i id n i p lo len hi hk;split at h;{rename_i B hB;cases h;have e:=hm id (by simp);exact ⟨by simp [Ea,hk,e,hB],by simp only [nP,nC,e]⟩};cases h
 ·rename_i hk;cases h;exact ⟨by simp [Ea,hk],rfl⟩
 ·rename_i hk;cases h;exact ⟨by simp [Ea,hk],rfl⟩
 cases h
theorem vS {e:Nat} {x:AV} {r:Nat×(Nat->AV)×List Id} (h:Je T m e x=some r) (hm:∀ id∈r.2.2,m' id=m id):Je T m' e x=some r/\nP m' x=nP m x:=by
 unfold Je at h ⊢;split at h
 ·exact ⟨h,rfl⟩
 ·rename_i id n i len cap;have a:=h;split at h;{obtain ⟨hb,h⟩:=aB h;cases h;have e:=hm id (by simp);simp only [nP,nC,e];exact ⟨a,tt⟩};cases h
 ·rename_i id n i p lo len hi;have a:=h;split at h;{obtain ⟨hb,h⟩:=aB h;cases h;have e:=hm id (by simp);simp only [nP,nC,e];exact ⟨a,tt⟩};cases h
 cases h
theorem Px {op:BinOp} {t:Nat} {x y:AV} {r:AV×Id×Option Prop} (h:zD T m op t x y=some r) (hm:m' r.2.1=m r.2.1):zD T m' op t x y=some r:=by
 have a:=h;unfold zD at h ⊢;split at h
 ·split at h;{simp only [aaC,abf]at h;obtain ⟨c,b,rfl⟩:=h;simp only at hm;unfold zD at a;rw [hm];exact a};cases h
 cases h
theorem VH {m:Id->Option Ob} {op:BinOp} {t:Nat} {x y:AV} {r:AV×Option Prop} (h:EN T op t x y=some r):zD T m op t x y=none:=by
 unfold zD;split
 ·exfalso;simp [EN,XU,ED]at h
 rfl
theorem Ui {e:Nat} {x:AV} {r:Nat×(Nat->AV)×List Id} (h:Nh T m e x=some r) (hm:∀ id∈r.2.2,m' id=m id):Nh T m' e x=some r/\nP m' x=nP m x:=by
 unfold Nh at h ⊢;split at h
 ·rename_i id n i p lo len hi;have a:=h;split at h;{obtain ⟨hb,h⟩:=aB h;cases h;have e:=hm id (by simp);simp only [nP,nC,e];exact ⟨a,tt⟩};cases h
 exact vS h hm
theorem WG {t:Nat} {lo hi b:Option Int} {x:AV} {r:AV×List Id×Prop} (h:slA T t lo hi b m x=some r) (hm:∀ id∈r.2.1,m' id=m id):slA T t lo hi b m' x=some r/\nP m' x=nP m x:=by
 unfold slA at h ⊢;split at h
 ·exact ⟨h,rfl⟩
 ·rename_i id n i len cap;have a:=h;split at h;{obtain ⟨hb,h⟩:=aB h;(have e:m' id=m id:=by refine hm id ?_;split at h <;> cases h <;> simp);simp only [nP,nC,e];exact ⟨a,tt⟩};cases h
 ·rename_i id n i p;have a:=h;split at h;{obtain ⟨hb,h⟩:=aB h;cases h;have e:=hm id (by simp);simp only [nP,nC,e];exact ⟨a,tt⟩};cases h
 ·exact ⟨h,rfl⟩
 cases h
theorem U0 {m m':Id->Option Ob} {x:AV} {r:List Id×Option Prop} (h:Qy m x=some r) (hm:∀ id∈r.1,m' id=m id):Qy m' x=some r:=by
 unfold Qy at h ⊢;split at h
 ·exact h
 ·exact h
 ·rename_i id n i len cap;split at h;{rename_i B hB;cases h;simp only [hm id (by simp),hB]};cases h
 cases h
theorem Vz {e:Nat} {q:Nat×(Nat->AV)×List Id} {x:AV} {r:Nat×List (Id×Ob)×List Id×Prop} (h:Q7 T m e q x=some r) (hm:∀ id∈r.2.2.1,m' id=m id):Q7 T m' e q x=some r/\nP m' x=nP m x /\ ∀ id∈q.2.2,id∈r.2.2.1:=by
 unfold Q7 at h ⊢;split at h
 ·rename_i id n i p lo len hi;have b:=h;split at h;{simp only [aaC]at h;obtain ⟨f,d,h⟩:=h;split at h;{obtain ⟨hb,h⟩:=aB h;cases h;have e:=hm id (by simp);simp only [nP,nC,e];exact ⟨b,trivial,λa c=>by simp [c]⟩};cases h};cases h
 cases h
theorem II:∀ (x:AV),(∀ id∈OC x,m' id=m id)->yH m' x=yH m x/\YN m' x=YN m x
 | .v _,_=>⟨rfl,rfl⟩
 | .agg t n get,h=>by
  have b:=λi (hi:i<n)=>II (get i) (λid hid=>h id (by
   simp only [OC,aeQ,adE]
   exact ⟨i,hi,hid⟩))
  refine ⟨?_,?_⟩
  ·simp only [yH];congr 1;funext i;by_cases hi:i<n;{rw [rD hi,rD hi,(b i hi).1]};(have:Nat.blt i n=false:=by cases hb:Nat.blt i n with| false=>rfl| true=>rw [adV]at hb;exact absurd hb hi);rw [this];rfl
  simp only [YN];exact propext ⟨λa i hi=>(b i hi).2▸a i hi,λa i hi=>(b i hi).2.symm▸a i hi⟩
 | .tup _,_=>⟨rfl,rfl⟩
 | .row ..,_=>⟨rfl,rfl⟩
 | .own id n i len cap,h=>by have e:=h id (by simp [OC]);simp only [yH,YN,e];exact ⟨trivial,tt⟩
 | .arr ..,_=>⟨rfl,rfl⟩
 | .ptr ..,_=>⟨rfl,rfl⟩
 | .rp ..,_=>⟨rfl,rfl⟩
 | .clo ..,_=>⟨rfl,rfl⟩
 | .mp _,_=>⟨rfl,rfl⟩
theorem Vo {x:AV} {r:AV×Option Prop×Bool×List Id} (h:Vp T m x=some r) (hm:∀ id∈r.2.2.2,m' id=m id):Vp T m' x=some r:=by
 unfold Vp at h ⊢;split at h
 ·rename_i id n i len cap;have a:=h;split at h;{cases h;have e:=hm id (by simp);simp only [e];exact a};cases h
 ·rename_i id n i p lo len hi;have a:=h;split at h;{simp only [aaC,abf]at h;obtain ⟨f,g,rfl⟩:=h;have e:=hm id (by simp);simp only [e];exact a};cases h
 ·cases h
 ·rename_i id n i p;have a:=h;split at h;{rename_i B hB;simp only [aaC,abf]at h;obtain ⟨t,ht,rfl⟩:=h;have e:=hm id (by simp);obtain ⟨c,d⟩:=II (m:=m) (m':=m') ((B.get i).at p) (λb hid=>hm b (adz _ hid));simp only [e,hB,ht,adT,c,d]};cases h
 exact h
theorem JV:∀ {xs:List AV} {r:List AV×Option Prop×Bool×List Id},QJ T m xs=some r->(∀ id∈r.2.2.2,m' id=m id)->QJ T m' xs=some r
 | [],r,h,_=>h
 | x::xs,r,h,hm=>by simp only [QJ,aaC,abf]at h ⊢;obtain ⟨a,b,l,c,rfl⟩:=h;simp only [aeN]at hm;exact ⟨a,Vo b (λid hi=>hm id (.inl hi)),l,JV c (λid hi=>hm id (.inr hi)),rfl⟩
theorem tC {d:List (Id×Ob)}:∀ {m m':Id->Option Ob} {id:Id},m' id=m id->iP m' d id=iP m d id:=by
 induction d with| nil=>intro m m' id h;exact h| cons x d a=>intro m m' id h;simp only [iP];refine a ?_;by_cases hi:id=x.1;{subst hi;rw [eY,eY]};rw [iI _ _ hi,iI _ _ hi,h]
theorem PU {ids:List Id} {x:AV} {r:AV×List (Id×Ob)×Option Prop} (h:Jo ids m x=some r) (hm:∀ id∈r.2.1.map (·.1),m' id=m id):Jo ids m' x=some r:=by
 unfold Jo at h ⊢;split at h
 ·rename_i id n i len cap;cases a:gX ids id with| true=>rw [a]at h;exact h| false=>rw [a]at h;simp only [ads]at h ⊢;have b:=h;split at h;{cases h;have e:=hm id (by simp);simp only [e];exact b};(cases h)
 ·cases h
 exact h
theorem Au {ids:List Id}:∀ {xs:List AV} {m m':Id->Option Ob} {r:List AV×List (Id×Ob)×Option Prop},Em ids m xs=some r->(∀ id∈r.2.1.map (·.1),m' id=m id)->Em ids m' xs=some r
 | [],_,_,r,h,_=>h
 | x::xs,m,m',r,h,hm=>by simp only [Em,aaC,abf]at h ⊢;obtain ⟨a,b,l,c,rfl⟩:=h;simp only [aei,aeN]at hm;exact ⟨a,PU b (λid hi=>hm id (.inl hi)),l,Au c (λid hi=>tC (hm id (.inr hi))),rfl⟩
theorem Eb:∀ {ids:List Id} {m m':Id->Option Ob},(∀ id∈ids,m' id=m id)->gets m' ids=gets m ids
 | [],_,_,_=>rfl
 | i::r,m,m',h=>by simp only [gets];rw [h i (by simp),Eb (λid hi=>h id (by simp [hi]))]
end
section
variable {T:Nat->TI}
theorem YE {st st':St} {G:D} {o:Oper} {r:AV×List Id×Option Prop} (h:evR T st G o=some r) (ht:∀ k∈tmpsOf o,st'.t k=st.t k) (hm:∀ id∈r.2.1,st'.m id=st.m id):evR T st' G o=some r:=by
 have e:∀ x∈o.op.operands,ev st' x=ev st x:=λx hx=>FW ht hx;unfold evR at h ⊢;cases a1:o.op <;> rw [a1]at h <;> (try dsimp only at h) <;> (try (cases h;done)) <;> (try dsimp only) <;> rw [a1]at e <;> simp only [Op.operands]at e
 case move x=>rw [e x (by simp)];exact h
 case assign x=>rw [e x (by simp)];exact h
 case pick c a b=>rw [e c (by simp),e a (by simp),e b (by simp)];exact h
 case build t ps=>rw [qP (λx hx=>e x (by simpa using hx))];exact h
 case load t x=>rw [e x (by simp)];simp only [aaC,abf]at h ⊢;obtain ⟨b,u,v,l,rfl⟩:=h;obtain ⟨g1,w⟩:=Ya l hm;exact ⟨b,u,v,g1,by rw [w]⟩
 case nilCheck x=>rw [e x (by simp)];simp only [aaC]at h ⊢;obtain ⟨b,u,l⟩:=h;refine ⟨b,u,?_⟩;split at l;{rename_i id n i p hb;(try simp only [hb]);split at l;{rename_i B hB;cases l;rw [hm id (by simp)];simp only [hB]};cases l};{rename_i hb;(try simp only [hb]);exact l};{rename_i hb;(try simp only [hb]);exact l};cases l
 case fieldAddr t x k=>rw [e x (by simp)];simp only [aaC,abf]at h ⊢;obtain ⟨b,u,v,l,rfl⟩:=h;obtain ⟨g1,w⟩:=OV l hm;exact ⟨b,u,v,g1,by rw [w]⟩
 case indexAddr t x i=>rw [e x (by simp),e i (by simp)];simp only [aaC]at h ⊢;obtain ⟨b,u,bi,l,z⟩:=h;refine ⟨b,u,bi,l,?_⟩;split at z;{rename_i k j a4;(try simp only [a4]);simp only [aaC,abf]at z ⊢;obtain ⟨v,h4,rfl⟩:=z;obtain ⟨g1,w⟩:=Vj h4 hm;exact ⟨v,g1,by rw [w]⟩};cases z
 case field t x k=>rw [e x (by simp)];exact h
 case index t x i=>rw [e x (by simp),e i (by simp)];exact h
 case binOp op t x y t'=>rw [e x (by simp),e y (by simp)];simp only [aaC]at h ⊢;obtain ⟨b1,u,b2,l,h⟩:=h;refine ⟨b1,u,b2,l,?_⟩;split at h;{rename_i v a5;simp only [abf]at h;subst h;rw [Px a5 (hm _ (by simp))]};simp only [aaC]at h;obtain ⟨v,z,h4⟩:=h;rw [VH z];simp only [aaC];exact ⟨v,z,h4⟩
 case unOp op t x=>rw [e x (by simp)];exact h
 case convert s d x=>rw [e x (by simp)];exact h
 case extract x i=>rw [e x (by simp)];exact h
 case makeFunc fn fst cs=>cases fn with| func f=>dsimp only at h ⊢;rw [qP (λx hx=>e x (by simp at hx;simp [hx]))];exact h| _=>(cases h)
 case call c=>split at h;{rename_i x q g;(have ha:c.args = #[x]:=by apply ad4;simpa using g);split at h;{rename_i t a2;(try simp only [q,g,a2]);rw [e x (by simp [Call.operands,ha])];simp only [aaC,abf]at h ⊢;obtain ⟨b,u,v,l,rfl⟩:=h;obtain ⟨g1,w⟩:=Vb l hm;exact ⟨b,u,v,g1,by rw [w]⟩};cases h};{rename_i x y q g;(have ha:c.args = #[x,y]:=by apply ad4;simpa using g);(try simp only [q,g]);rw [e x (by simp [Call.operands,ha]),e y (by simp [Call.operands,ha])];exact h};{rename_i x y q g;(have ha:c.args = #[x,y]:=by apply ad4;simpa using g);(try simp only [q,g]);rw [e x (by simp [Call.operands,ha]),e y (by simp [Call.operands,ha])];exact h};cases h
theorem YD {st st':St} {G:D} {o:Oper} {r:R} (h:Tv T st G o=some r) (ht:∀ k∈tmpsOf o,st'.t k=st.t k) (hm:∀ id∈r.f,st'.m id=st.m id):Tv T st' G o=some r:=by
 have a:∀ x∈o.op.operands,ev st' x=ev st x:=λx hx=>FW ht hx;unfold Tv at h ⊢;obtain ⟨hs,h⟩:=aB h;rw [hs];simp only [adv];cases a0:o.op <;> rw [a0]at h <;> (try dsimp only at h) <;> (try (cases h;done)) <;> (try dsimp only) <;> rw [a0]at a <;> simp only [Op.operands]at a
 case alloc t=>have d:=h;obtain ⟨hb,h⟩:=aB h;cases h;rw [hm _ (by simp)];exact d
 case box t x=>rw [a x (by simp)];simp only [aaC]at h ⊢;obtain ⟨b,s,h⟩:=h;have d:=h;obtain ⟨hb,h⟩:=aB h;cases h;exact ⟨b,s,by rw [hm _ (by simp)];exact d⟩
 case store t x y=>rw [a x (by simp),a y (by simp)];simp only [aaC]at h ⊢;obtain ⟨b,s,u,w,h⟩:=h;refine ⟨b,s,u,w,?_⟩;split at h;{rename_i id n i p hb;(try simp only [hb]);have d:=h;split at h;{obtain ⟨hb,h⟩:=aB h;cases h;rw [hm _ (by simp)];exact d};cases h};cases h
 case buildSlice t len ps=>rw [qP (λx hx=>a x (by simpa using hx))];exact h
 case makeSlice t x y=>rw [a x (by simp),a y (by simp)];simp only [aaC]at h ⊢;obtain ⟨b,s,u,w,h⟩:=h;refine ⟨b,s,u,w,?_⟩;split at h;{rename_i k l k' c e e1 e2 e3;have d:=h;obtain ⟨hb,h⟩:=aB h;cases h;rw [hm _ (by simp)];exact d};cases h
 case call c=>split at h;{rename_i x y t t' z g a1;(have ha:c.args = #[x,y]:=by apply ad4;simpa using g);(try simp only [z,g,a1]);rw [a x (by simp [Call.operands,ha]),a y (by simp [Call.operands,ha])];simp only [aaC]at h ⊢;obtain ⟨b,s,u,w,h⟩:=h;refine ⟨b,s,u,w,?_⟩;split at h;{rename_i e hk;(try simp only [hk]);simp only [aaC]at h ⊢;obtain ⟨q,hq,h⟩:=h;refine ⟨q,?_⟩;obtain ⟨hb,h⟩:=aB h;rw [hb];simp only [adv];split at h;{have d:=h;rename_i j;obtain ⟨hn,h⟩:=aB h;cases h;obtain ⟨g1,v⟩:=vS hq (λid hi=>hm id (by simp [hi]));refine ⟨g1,?_⟩;(try simp only [j]);rw [hm _ (by simp),v];exact d};{have d:=h;rename_i j;obtain ⟨hn,h⟩:=aB h;cases h;obtain ⟨g1,v⟩:=vS hq (λid hi=>hm id (by simp [hi]));refine ⟨g1,?_⟩;(try simp only [j]);rw [hm _ (by simp),v];exact d};{rename_i id n len j;have d:=h;split at h;{obtain ⟨hn,h⟩:=aB h;cases h;obtain ⟨g1,v⟩:=vS hq (λid hi=>hm id (by simp [hi]));refine ⟨g1,?_⟩;(try simp only [j]);rw [hm _ (by simp),v];exact d};cases h};cases h};cases h};cases h
theorem Iu {st st':St} {G:D} {gs:List CG} {o:Oper} {r:R×List CG} (h:Zb T st G gs o=some r) (ht:∀ k∈tmpsOf o,st'.t k=st.t k) (hm:∀ id∈r.1.f,st'.m id=st.m id):Zb T st' G gs o=some r:=by
 have a:∀ x∈o.op.operands,ev st' x=ev st x:=λx hx=>FW ht hx;unfold Zb at h ⊢;cases a7:o.op <;> rw [a7]at h <;> (try dsimp only at h) <;> (try (cases h;done)) <;> (try dsimp only) <;> rw [a7]at a <;> simp only [Op.operands]at a
 case slice t x lo hi mx=>rw [a x (by simp),DW (λy e=>a y (by simp [e])),DW (λy e=>a y (by simp [e])),DW (λy e=>a y (by simp [e]))];simp only [aaC]at h ⊢;obtain ⟨b,s,l,z,hh,h3,q,h4,r',h5,h⟩:=h;have u:=h;obtain ⟨hb,h⟩:=aB h;cases h;obtain ⟨g1,g2⟩:=WG h5 hm;exact ⟨b,s,l,z,hh,h3,q,h4,r',g1,by rw [g2];exact u⟩
 case buildSlice t len ps=>cases gs with| nil=>(cases h)| cons g gs=>dsimp only at h ⊢;rw [qP (λx hx=>a x (by simpa using hx))];have b4:=(aB h).1;replace h:=(aB h).2;rw [b4];simp only [adv];simp only [aaC]at h ⊢;obtain ⟨l,s,h⟩:=h;refine ⟨l,s,?_⟩;split at h;{have u:=h;obtain ⟨hb,h⟩:=aB h;cases h;rw [hm _ (by simp)];exact u};(cases h)
 case makeMap t rv=>cases rv with| some _=>(cases h)| none=>dsimp only at h ⊢;have u:=h;obtain ⟨hb,h⟩:=aB h;cases h;rw [hm _ (by simp)];exact u
 case lookup t x k ok=>cases gs with| nil=>(cases h)| cons g gs=>dsimp only at h ⊢;rw [a x (by simp),a k (by simp)];simp only [aaC]at h ⊢;obtain ⟨b,s,b2,z,h⟩:=h;refine ⟨b,s,b2,z,?_⟩;have u:=h;split at h;{rename_i id kt vt hb hk;have w:=h;split at h;{obtain ⟨a0,h⟩:=aB h;cases h;rw [hm _ (by simp)];exact w};cases h};(cases h)
 case mapUpdate t x k v=>cases gs with| nil=>(cases h)| cons g gs=>dsimp only at h ⊢;rw [a x (by simp),a k (by simp),a v (by simp)];simp only [aaC]at h ⊢;obtain ⟨b,s,b2,z,b3,h3,a1,h4,h⟩:=h;refine ⟨b,s,b2,z,b3,h3,a1,h4,?_⟩;split at h;{rename_i id kt vt hb hk;have w:=h;split at h;{obtain ⟨a0,h⟩:=aB h;cases h;rw [hm _ (by simp)];exact w};cases h};(cases h)
 case insert t x k v=>cases gs with| nil=>(cases h)| cons g gs=>dsimp only at h ⊢;rw [a x (by simp),a k (by simp),a v (by simp)];simp only [aaC]at h ⊢;obtain ⟨b,s,b2,z,b3,h3,a1,h4,h⟩:=h;refine ⟨b,s,b2,z,b3,h3,a1,h4,?_⟩;split at h;{rename_i id kt vt hb hk;have w:=h;split at h;{obtain ⟨a0,h⟩:=aB h;cases h;rw [hm _ (by simp)];exact w};cases h};(cases h)
 case call c=>split at h;{rename_i x y t t' j d p;(have ha:c.args = #[x,y]:=by apply ad4;simpa using d);(try simp only [j,d,p]);rw [a x (by simp [Call.operands,ha]),a y (by simp [Call.operands,ha])];simp only [aaC]at h ⊢;obtain ⟨b,s,b',z,h⟩:=h;refine ⟨b,s,b',z,?_⟩;split at h;{rename_i e hk;(try simp only [hk]);simp only [aaC]at h ⊢;obtain ⟨q,hq,r',a3,h⟩:=h;have u:=h;obtain ⟨a0,h⟩:=aB h;cases h;obtain ⟨g1,g2,g3⟩:=Vz a3 hm;obtain ⟨k1,k2⟩:=Ui hq (λid hi=>hm id (g3 id hi));exact ⟨q,k1,r',g1,by rw [g2,k2];exact u⟩};cases h};{rename_i x y t t' j d p;(have ha:c.args = #[x,y]:=by apply ad4;simpa using d);(try simp only [j,d,p]);split at h;{rename_i g c2;have c3:=h;obtain ⟨b1,h⟩:=aB h;simp only [b1,adv];rw [a x (by simp [Call.operands,ha]),a y (by simp [Call.operands,ha])];simp only [aaC]at h ⊢;obtain ⟨b,s,b',z,h⟩:=h;refine ⟨b,s,b',z,?_⟩;split at h;{rename_i e hk;(try simp only [hk]);simp only [aaC]at h ⊢;obtain ⟨q,hq,r',a3,h⟩:=h;have u:=h;obtain ⟨a0,h⟩:=aB h;cases h;obtain ⟨k1,k2⟩:=vS hq (λid hi=>hm id (ad9 _ hi));have k3:=U0 a3 (λid hi=>hm id (ad3 _ hi));exact ⟨q,k1,r',k3,by rw [k2];exact u⟩};cases h};cases h};{rename_i x t j d p;(have ha:c.args = #[x]:=by apply ad4;simpa using d);(try simp only [j,d,p]);rw [a x (by simp [Call.operands,ha])];simp only [aaC]at h ⊢;obtain ⟨b,s,h⟩:=h;refine ⟨b,s,?_⟩;split at h;{rename_i id n i len cap e hb hk;split at h;{rename_i B hB;have u:=h;obtain ⟨a0,h⟩:=aB h;cases h;have e1:=hm id (by simp);simp only [hb,hk,nC,e1,hB]at u ⊢;exact u};cases h};cases h};cases h
theorem YH {AC:Rq} {st st':St} {G:D} {gs:List CG} {o:Oper} {r:R×List CG} (h:evK T AC st G gs o=some r) (ht:∀ k∈tmpsOf o,st'.t k=st.t k) (hm:∀ id∈r.1.f,st'.m id=st.m id):evK T AC st' G gs o=some r:=by
 have d:∀ x∈o.op.operands,ev st' x=ev st x:=λx hx=>FW ht hx;unfold evK at h ⊢;split at h
 ·rename_i c g a1 w;(try simp only [w]);rw [w]at d;simp only [Op.operands]at d;split at h;{rename_i fo b;(try simp only [b]);rw [d fo (by simp [Call.operands,b]),qP (λx hx=>d x (by simp at hx;simp [Call.operands,b,hx]))];simp only [aaC]at h ⊢;obtain ⟨z,h1,l,h2,h⟩:=h;refine ⟨z,h1,l,h2,?_⟩;split at h;{rename_i f caps p a;(try simp only [p,a]);simp only [aaC]at h ⊢;obtain ⟨fz,s,h⟩:=h;have q:=h;obtain ⟨hb,h⟩:=aB h;cases h;exact ⟨fz,JV s hm,q⟩};{rename_i f caps p a;(try simp only [p,a]);cases v:Lr g with| true=>simp only [v,adv,aaC]at h ⊢;obtain ⟨i,s,B,y,h⟩:=h;have q:=h;obtain ⟨hb,h⟩:=aB h;cases h;have j:∀ id∈i.2.1.map (·.1),st'.m id=st.m id:=λid hi=>hm id (ad3 _ hi);have n:∀ id∈g.ids,st'.m id=st.m id:=λid hi=>hm id (ad9 _ hi);refine ⟨i,Au s j,B,?_,q⟩;rw [Eb (m:=iP st.m i.2.1) (λid hi=>tC (n id hi))];exact y| false=>simp only [v,ads]at h ⊢;simp only [aaC]at h ⊢;obtain ⟨i,s,B,y,h⟩:=h;have q:=h;obtain ⟨hb,h⟩:=aB h;cases h;have j:∀ id∈i.2.1.map (·.1),st'.m id=st.m id:=λid hi=>hm id (ad3 _ hi);have n:∀ id∈g.ids,st'.m id=st.m id:=λid hi=>hm id (ad9 _ (ad3 _ hi));have u:∀ id∈sites (o.dst.getD 0) 1 (g.out.length - g.ids.length),st'.m id=st.m id:=λid hi=>hm id (ad9 _ (ad9 _ hi));refine ⟨i,Au s j,B,?_,?_⟩;{rw [Eb (m:=iP st.m i.2.1) (λid hi=>tC (n id hi))];exact y};(have e:(sites (o.dst.getD 0) 1 (g.out.length - g.ids.length)).all (λid=>isNone (iP st'.m i.2.1 id))=(sites (o.dst.getD 0) 1 (g.out.length - g.ids.length)).all (λid=>isNone (iP st.m i.2.1 id)):=by rw [acp,adp,adp];constructor;{intro h id hi;rw [<- tC (u id hi)];exact h id hi};intro h id hi;rw [tC (u id hi)];exact h id hi);rw [e];exact q};cases h};cases h
 cases h
theorem YF {AC:Rq} {st st':St} {G:D} {gs:List CG} {o:Oper} {r:R×List CG} (h:PL T AC st G gs o=some r) (ht:∀ k∈tmpsOf o,st'.t k=st.t k) (hm:∀ id∈r.1.f,st'.m id=st.m id):PL T AC st' G gs o=some r:=by
 have w:∀ {r:R×List CG},((Tv T st G o).bind λr=>some (r,gs))=some r->(∀ id∈r.1.f,st'.m id=st.m id)->((Tv T st' G o).bind λr=>some (r,gs))=some r:=by intro r h hm;simp only [aaC,abf]at h ⊢;obtain ⟨c,b,rfl⟩:=h;exact ⟨c,YD b ht hm,rfl⟩
 unfold PL at h ⊢;split at h
 ·rename_i hc;simp only [aaC,abf]at h ⊢;obtain ⟨c,b,rfl⟩:=h;exact ⟨c,YE b ht hm,rfl⟩
 ·exact w h hm
 ·exact Iu h ht hm
 ·cases gs with| nil=>exact w h hm| cons g gs=>dsimp only at h ⊢;(cases a:Ia g with| true=>rw [a]at h;exact Iu h ht hm| false=>rw [a]at h;exact w h hm)
 ·cases gs with| nil=>exact w h hm| cons g gs=>dsimp only at h ⊢;(cases a:OB g with| true=>rw [a]at h;exact Iu h ht hm| false=>rw [a]at h;exact w h hm)
 exact YH h ht hm
def reads (ops:List Oper) (o:Oper):List Nat:=(match o.guard with
 | some (j,_)=>match (ops[j]?).bind (·.dst)with
  | some d=>[d]
  | none=>[]
 | none=>[])++tmpsOf o
theorem OE {ops:List Oper} {st st':St} {o:Oper} (ht:∀ k∈reads ops o,st'.t k=st.t k):oK ops st' o=oK ops st o:=by
 unfold oK;unfold reads at ht;cases hg:o.guard with| none=>rfl| some p=>obtain ⟨j,w⟩:=p;simp only;(cases a:ops[j]? with| none=>rfl| some b=>simp only [adT];(cases hd:b.dst with| none=>rfl| some d=>simp only [adT];rw [ht d (by simp [hg,a,hd])]))
end
structure Rec where
 o:Oper
 G:D
 gs:List CG
 r:R
def evT (T:Nat->TI) (AC:Rq) (nt:Nat) (ops:List Oper):List Oper->RS->Option (List Rec×RS)
 | [],s=>some ([],s)
 | o::r,s=>(oK ops s.st o).bind λG=>(PL T AC s.st G s.gs o).bind λx=>bif Dl nt o.dst then
  (evT T AC nt ops r ⟨s.st.after o G x.1,x.2,fP s.c x.1.c⟩).bind λp=>some (⟨o,G,s.gs,x.1⟩::p.1,p.2)else none
def Lh (a:Nat) (l:List Nat):Bool:=l.any (Nat.beq a)
def xU (a b:List Id):Bool:=a.any (gX b)
def wr (r:R):List Id:=r.d.map (·.1)
def BA (d:Option Nat) (l:List Nat):Bool:=match d with
 | some d => !Lh d l
 | none=>true
def IK (d e:Option Nat):Bool:=match d,e with
 | some d,some e => !Nat.beq d e
 | _,_=>true
def Ba (ops:List Oper) (x y:Rec):Bool :=
 BA x.o.dst (reads ops y.o)&&BA y.o.dst (reads ops x.o)&&IK x.o.dst y.o.dst && !xU (wr x.r) (y.r.f++wr y.r) && !xU (wr y.r) x.r.f
def reach (ops:List Oper) (i:Nat):Nat->Oper->Bool
 | 0,_=>false
 | f+1,o=>(o.after.toList.any λe=>Region.binds .any e&&Nat.beq e.on i)||o.after.toList.any λe=>Region.binds .any e&&Nat.blt i e.on&&match ops[e.on]? with
  | some a=>reach ops i f a
  | none=>false
def forward (j:Nat) (o:Oper):Bool:=o.after.toList.all λe => !Region.binds .any e||Nat.blt e.on j
def sZ (ops:List Oper) (y:Rec):List Rec->Nat->Bool
 | [],_=>true
 | x::r,i=>(Ba ops x y||reach ops i 12 y.o)&&sZ ops y r (i+1)
def EC (ops:List Oper):List Rec->List Rec->Bool
 | _,[]=>true
 | done,y::r=>forward done.length y.o&&sZ ops y done 0&&EC ops (done++[y]) r
def evA (T:Nat->TI) (AC:Rq) (nt:Nat) (ops:List Oper) (s:RS):Option RS :=
 (evT T AC nt ops ops s).bind λp=>bif EC ops [] p.1 then some p.2 else none
theorem CJ {ops:List Oper} {y:Rec}:∀ {l:List Rec} {i0 i:Nat} {x:Rec},sZ ops y l i0=true->l[i]? = some x->Ba ops x y=true\/reach ops (i0+i) 12 y.o=true
 | [],_,_,_,_,h=>by simp at h
 | z::r,i0,i,x,h,hi=>by simp only [sZ,abe,adM]at h;cases i with| zero=>simp at hi;subst hi;simpa using h.1| succ i=>have:=CJ (i:=i) h.2 (by simpa using hi);rwa [show i0+(i+1)=i0+1+i by omega]
theorem Oo {ops:List Oper}:∀ {r done:List Rec},EC ops done r=true -> ∀ {i j:Nat} {x y:Rec},i<j->done.length<=j->(done++r)[i]? = some x->(done++r)[j]? = some y->Ba ops x y=true\/reach ops i 12 y.o=true
 | [],done,_,i,j,x,y,_,hj,_,hy=>by simp at hy;have:=(List.getElem?_eq_some_iff.1 hy).1;omega
 | z::r,done,h,i,j,x,y,hij,hj,hx,hy=>by simp only [EC,abe]at h;by_cases a:j=done.length;{subst a;rw [adi (aa3 _)]at hy;simp at hy;subst hy;rw [ac6 hij]at hx;have:=CJ h.1.2 hx;rwa [acY]at this};(have e:done++z::r=(done++[z])++r:=by simp);rw [e]at hx hy;exact Oo h.2 hij (by simp;omega) hx hy
theorem JF {ops:List Oper}:∀ {r done:List Rec},EC ops done r=true -> ∀ {j:Nat} {y:Rec},done.length<=j->(done++r)[j]? = some y->forward j y.o=true
 | [],done,_,j,y,hj,hy=>by simp at hy;have:=(List.getElem?_eq_some_iff.1 hy).1;omega
 | z::r,done,h,j,y,hj,hy=>by simp only [EC,abe]at h;by_cases a:j=done.length;{subst a;rw [adi (aa3 _)]at hy;simp at hy;subst hy;exact h.1.1};(have e:done++z::r=(done++[z])++r:=by simp);rw [e]at hy;exact JF h.2 (by simp;omega) hy
def jh (X:Nat->Bool):Nat->List Rec->St->St
 | _,[],st=>st
 | k,x::r,st=>jh X (k+1) r (bif X k then st.after x.o x.G x.r else st)
theorem Bo {X:Nat->Bool}:∀ {l:List Rec} {k:Nat} {st:St},(∀ i,k<=i->X i=false)->jh X k l st=st
 | [],_,_,_=>rfl
 | x::r,k,st,h=>by simp only [jh,h k (aa3 _),ads];exact Bo (λi hi=>h i (by omega))
theorem uT {X Y:Nat->Bool}:∀ {l:List Rec} {k:Nat} {st:St},(∀ i,k<=i->i<k+l.length->X i=Y i)->jh X k l st=jh Y k l st
 | [],_,_,_=>rfl
 | x::r,k,st,h=>by simp only [jh];rw [h k (aa3 _) (by simp)];exact uT (λi hi a=>h i (by omega) (by simp;omega))
theorem qA {m:Id->Option Ob} {d:List (Id×Ob)} {id:Id} (h:id∉d.map (·.1)):iP m d id=m id:=by
 induction d generalizing m with| nil=>rfl| cons x d a=>simp only [aeh,adZ,not_or]at h;simp only [iP];rw [a h.2,iI _ _ h.1]
theorem Pz {m m':Id->Option Ob} {d:List (Id×Ob)} {id:Id} (h:id∈d.map (·.1)):iP m d id=iP m' d id:=by
 induction d generalizing m m' with| nil=>simp at h| cons x d a=>simp only [iP];by_cases hd:id∈d.map (·.1);{exact a hd};simp only [aeh,adZ]at h;rcases h with h | h;{rw [qA hd,qA hd,h,eY,eY]};exact absurd h hd
theorem F7 (st:St) (o:Oper) (G:D) (r:R):(st.after o G r).m=iP st.m r.d:=rfl
theorem Ti {X Y:Nat->Bool} {t:Nat}:∀ {l:List Rec} {k:Nat} {st st':St},st.t t=st'.t t->(∀ (i:Nat) (x:Rec),l[i]? = some x->X (k+i)≠Y (k+i)->x.o.dst≠some t)->(jh X k l st).t t=(jh Y k l st').t t
 | [],_,_,_,h,_=>h
 | x::r,k,st,st',h,hd=>by simp only [jh];refine Ti ?_ (λi y m f=>hd (i+1) y (by simpa using m) (by rwa [show k+(i+1)=k+1+i by omega]));have c:=hd 0 x rfl;simp only [ad2]at c;(have a:∀ st:St,x.o.dst≠some t->(st.after x.o x.G x.r).t t=st.t t:=by intro st f;rw [Dt];cases hx:x.o.dst with| none=>rfl| some d=>have:t≠d:=λe=>f (by rw [hx,e]);simp [this]);(have b:(st.after x.o x.G x.r).t t=(st'.after x.o x.G x.r).t t:=by rw [Dt,Dt];cases x.o.dst with| none=>exact h| some d=>(by_cases e:t=d <;> simp [e,h] <;> (subst e;exact λ_=>h)));(cases g:X k <;> cases j:Y k);{exact h};{rw [g,j]at c;simp only [ads,adv];rw [a st' (c (by simp))];exact h};{rw [g,j]at c;simp only [ads,adv];rw [a st (c (by simp))];exact h};exact b
theorem Tj {X Y:Nat->Bool} {id:Id}:∀ {l:List Rec} {k:Nat} {st st':St},st.m id=st'.m id->(∀ (i:Nat) (x:Rec),l[i]? = some x->X (k+i)≠Y (k+i)->id∉wr x.r)->(jh X k l st).m id=(jh Y k l st').m id
 | [],_,_,_,h,_=>h
 | x::r,k,st,st',h,hd=>by simp only [jh];refine Tj ?_ (λi y e d=>hd (i+1) y (by simpa using e) (by rwa [show k+(i+1)=k+1+i by omega]));have a:=hd 0 x rfl;simp only [ad2]at a;(cases b:X k <;> cases c:Y k);{exact h};{rw [b,c]at a;simp only [ads,adv,F7];rw [qA (a (by simp))];exact h};{rw [b,c]at a;simp only [ads,adv,F7];rw [qA (a (by simp))];exact h};simp only [adv,F7];exact (tC h.symm).symm
theorem Rl (st:St) (x y:Rec) (hd:IK x.o.dst y.o.dst=true) (hw:∀ id∈wr x.r,id∉wr y.r):(st.after x.o x.G x.r).after y.o y.G y.r=(st.after y.o y.G y.r).after x.o x.G x.r:=by
 have ht:((st.after x.o x.G x.r).after y.o y.G y.r).t=((st.after y.o y.G y.r).after x.o x.G x.r).t:=by funext k;simp only [Dt];cases hx:x.o.dst with| none=>rfl| some d=>(cases f:y.o.dst with| none=>rfl| some e=>rw [hx,f]at hd;(have c:d≠e:=λh=>by subst h;simp [IK]at hd);simp only;by_cases a:k=d;{subst a;simp [c]};simp [a])
 have hm:((st.after x.o x.G x.r).after y.o y.G y.r).m=((st.after y.o y.G y.r).after x.o x.G x.r).m:=by funext id;simp only [F7];by_cases a:id∈wr y.r;{by_cases b:id∈wr x.r;{exact absurd a (hw id b)};rw [qA (m:=iP st.m y.r.d) b];exact Pz a};rw [qA a];by_cases b:id∈wr x.r;{exact Pz b};rw [qA b,qA b,qA a]
 cases a:(st.after x.o x.G x.r).after y.o y.G y.r;cases b:(st.after y.o y.G y.r).after x.o x.G x.r;rw [a,b]at ht hm;simp only at ht hm;rw [ht,hm]
theorem zn {X:Nat->Bool} {x:Rec}:∀ {l:List Rec} {k:Nat} {st:St},(∀ (i:Nat) (y:Rec),l[i]? = some y->X (k+i)=true->IK x.o.dst y.o.dst=true /\ ∀ id∈wr x.r,id∉wr y.r) ->
 jh X k l (st.after x.o x.G x.r)=(jh X k l st).after x.o x.G x.r
 | [],_,_,_=>rfl
 | y::r,k,st,h=>by simp only [jh];have a:∀ (i:Nat) (z:Rec),r[i]? = some z->X (k+1+i)=true->IK x.o.dst z.o.dst=true /\ ∀ id∈wr x.r,id∉wr z.r:=λi z e b=>h (i+1) z (by simpa using e) (by rwa [show k+(i+1)=k+1+i by omega]);cases b:X k with| false=>exact zn a| true=>obtain ⟨c,d⟩:=h 0 y rfl (by simpa using b);simp only [adv];rw [Rl st x y c d];exact zn a
theorem J5 {X Y:Nat->Bool} {i:Nat} {x:Rec}:∀ {l:List Rec} {k:Nat} {st:St},l[i]? = some x->X (k+i)=false->Y (k+i)=true->(∀ j,j≠k+i->X j=Y j)->(∀ (j:Nat) (y:Rec),i<j->l[j]? = some y->X (k+j)=true->IK x.o.dst y.o.dst=true /\ ∀ id∈wr x.r,id∉wr y.r) ->
 jh Y k l st=(jh X k l st).after x.o x.G x.r
 | [],_,_,h,_,_,_,_=>by simp at h
 | y::r,k,st,h,hX,hY,hXY,hc=>by cases i with| zero=>simp at h;subst h;simp only [ad2]at hX hY hXY;simp only [jh,hX,hY,adv,ads];rw [uT (X:=Y) (Y:=X) (λj c _=>(hXY j (by omega)).symm)];exact zn (λj z b a=>hc (j+1) z (by omega) (by simpa using b) (by rwa [show k+(j+1)=k+1+j by omega]))| succ i=>(have e:k+(i+1)=k+1+i:=by omega);simp only [jh];rw [hXY k (by omega)];exact J5 (by simpa using h) (by rwa [<- e]) (by rwa [<- e]) (λj c=>hXY j (by omega)) (λj z c b a=>hc (j+1) z (by omega) (by simpa using b) (by rwa [show k+(j+1)=k+1+j by omega]))
section
variable {P:Program} {T:Nat->TI} {N:Nat}
theorem J7 {AC:Rq} {nt:Nat} {ops:List Oper}:∀ {l:List Oper} {s s':RS} {a:List Rec} (k:Nat),evT T AC nt ops l s=some (a,s')->ay s'.c ->
 ay s.c/\a.length=l.length/\s'.st=jh (λ_=>true) k a s.st /\
 ∀ (j:Nat) (x:Rec),a[j]? = some x->l[j]? = some x.o/\oK ops (jh (λi=>Nat.blt i (k+j)) k a s.st) x.o=some x.G/\Dl nt x.o.dst=true/\ay x.r.c /\
  ∃ g,PL T AC (jh (λi=>Nat.blt i (k+j)) k a s.st) x.G x.gs x.o=some (x.r,g)
 | [],s,s',a,k,h,hc=>by simp only [evT,abf,adJ]at h;obtain ⟨rfl,rfl⟩:=h;exact ⟨hc,rfl,rfl,λj x d=>by simp at d⟩
 | o::r,s,s',a,k,h,hc=>by
  simp only [evT,aaC]at h;obtain ⟨G,t,x,u,f⟩:=h;obtain ⟨m,f⟩:=aB f;simp only [aaC,abf,adJ]at f;obtain ⟨⟨b,s1⟩,v,rfl,rfl⟩:=f;obtain ⟨g1,p,n,q⟩:=J7 (k+1) v hc;simp only at g1 n;rw [aI]at g1;refine ⟨g1.1,by simp [p],by simp only [jh,adv];exact n,λj y d=>?_⟩;cases j with
  | zero =>
   simp at d
   subst d
   have e:jh (λi=>Nat.blt i (k+0)) k (⟨o,G,s.gs,x.1⟩::b) s.st=s.st:=Bo (λi hi=>by
    cases hb:Nat.blt i (k+0)with| false=>rfl| true=>(have:=kF hb;omega))
   rw [e]
   exact ⟨rfl,t,m,g1.2,x.2,u⟩
  | succ j=>simp only [aeJ]at d;obtain ⟨w,z,q3,q4,q5⟩:=q j y d;(have e:jh (λi=>Nat.blt i (k+(j+1))) k (⟨o,G,s.gs,x.1⟩::b) s.st=jh (λi=>Nat.blt i (k+1+j)) (k+1) b (s.st.after o G x.1):=by simp only [jh];(have:Nat.blt k (k+(j+1))=true:=by rw [adV];omega);rw [this,adv,show k+(j+1)=k+1+j by omega]);rw [e];exact ⟨by simpa using w,z,q3,q4,q5⟩
theorem QA {a:Nat} {l:List Nat}:Lh a l=true↔a∈l:=by
 simp only [Lh,List.any_eq_true];constructor
 ·rintro ⟨b,c,d⟩;rw [abJ d];exact c
 intro h;exact ⟨a,h,aeY a⟩
theorem O5 {d:Option Nat} {l:List Nat} (h:BA d l=true):∀ t∈l,d≠some t:=by
 rintro t ht rfl;have:Lh t l=true:=QA.2 ht;simp [BA,this]at h
theorem xR {a b:List Id} (h:(!xU a b)=true):∀ id∈a,id∉b:=by
 intro id c hb;have:xU a b=true:=by simp only [xU,List.any_eq_true];exact ⟨id,c,jq.2 hb⟩
 rw [this]at h;cases h
theorem sK {ops:Array Oper} {listed:Array Bool} (b:∀ (j:Nat) (o:Oper),ops[j]? = some o->listed.getD j false=true -> ∀ e∈o.after,Region.binds .any e=true->listed.getD e.on false=true) {i:Nat} :
 ∀ (f:Nat) (o:Oper),(∀ e∈o.after,Region.binds .any e=true->listed.getD e.on false=true)->reach ops.toList i f o=true->listed.getD i false=true
 | 0,_,_,h=>by cases h
 | f+1,o,ho,h=>by simp only [reach,adM,List.any_eq_true,abe]at h;rcases h with ⟨e,c,d,a⟩ | ⟨e,c,⟨d,_⟩,a⟩;{have:=abJ a;subst this;exact ho e (by simpa using c) d};split at a;{rename_i k g;exact sK b f k (b e.on k (by simpa using g) (ho e (by simpa using c) d)) a};cases a
theorem LG {j:Nat} {o:Oper} (h:forward j o=true):∀ e∈o.after,Region.binds .any e=true->e.on<j:=by
 intro e he hb;simp only [forward,adp]at h;have:=h e (by simpa using he);rw [hb]at this;simpa [adV]using this
theorem count_set:∀ (l:List Bool) (i:Nat),l[i]? = some false->(l.set i true).count false+1=l.count false
 | [],_,h=>by simp at h
 | b::l,0,h=>by simp at h;subst h;simp
 | b::l,i+1,h=>by have:=count_set l i (by simpa using h);cases b <;> simp <;> omega
theorem Vw (hT:jf P T N) (hE:wZ P T N) {e:Entry} {ops:Array Oper} {Q:Exit->Act->World->Prop} {s s':RS} (h:evA T (AC P T N) e.nt ops.toList s=some s') (hc:ay s'.c)
 (hQ:∀ I' ρ' a' w',gJ T N e I' ρ' s'.st a' w'->Q .normal a' w') {I:fK} {ρ:Pl} {a:Act} {w:World} (hs:gJ T N e I ρ s.st a w) (rd:Option Nat) (n:Nat):wpAnyIn (l9 rd) n P .any ops Q ops.size (Array.replicate ops.size false) a w:=by
 simp only [evA,aaC]at h;obtain ⟨⟨b,s1⟩,h1,h2⟩:=h;obtain ⟨c1,h2⟩:=aB h2;cases h2;obtain ⟨f1,f2,f3,f4⟩:=J7 0 h1 hc;have u:∀ {i j:Nat} {x y:Rec},i<j->b[i]? = some x->b[j]? = some y->Ba ops.toList x y=true\/reach ops.toList i 12 y.o=true:=λb1 hx p=>Oo c1 b1 (by simp) (by simpa using hx) (by simpa using p)
 have b9:∀ {j:Nat} {y:Rec},b[j]? = some y->forward j y.o=true:=λp=>JF c1 (by simp) (by simpa using p);have hlen:b.length=ops.size:=by simpa using f2
 have z:∀ j,j<ops.size -> ∃ x,b[j]? = some x/\ops[j]? = some x.o:=by
  intro j hj;refine ⟨b[j]'(by omega),aaR _,?_⟩;have:=(f4 j _ (aaR (by omega))).1
  simpa using this
 have main:∀ (fuel:Nat) (listed:Array Bool) (I:fK) (ρ:Pl) (a:Act) (w:World),listed.size=ops.size->(∀ (j:Nat) (o:Oper),ops[j]? = some o->listed.getD j false=true -> ∀ e∈o.after,Region.binds .any e=true->listed.getD e.on false=true) ->
  listed.toList.count false<=fuel->gJ T N e I ρ (jh (λi=>listed.getD i false) 0 b s.st) a w->wpAnyIn (l9 rd) n P .any ops Q fuel listed a w:=by
  intro fuel
  induction fuel with
  | zero =>
   intro listed I ρ a w hsz q a5 hs;have v:∀ i,i<ops.size->listed.getD i false=true:=by
    intro i hi;have h0:listed.toList.count false=0:=by omega
    rw [List.count_eq_zero]at h0;have g:i<listed.size:=by omega
    cases hb:listed[i]with
    | true=>simp [g,hb]
    | false=>exact absurd (by rw [<- hb];simp) h0
   refine ⟨?_,?_⟩
   ·rw [List.eq_nil_iff_forall_not_mem];intro i hi;obtain ⟨h3,o,h4,_⟩:=mem_ready.1 hi;have b2:=(Array.getElem?_eq_some_iff.1 h4).1
    have:=v i b2;have g:i<listed.size:=by omega
    simp [g]at h3 this;rw [h3]at this;cases this
   ·have e1:jh (λi=>listed.getD i false) 0 b s.st=s1.st:=by
     rw [f3];exact uT (λi _ hi=>v i (by omega))
    rw [e1]at hs;exact hQ _ _ _ _ hs
  | succ fuel ih =>
   intro listed I ρ a w hsz q a5 hs;refine ⟨λa6=>?_,λi hi=>?_⟩
   ·
     have v:∀ i,i<ops.size->listed.getD i false=true:=by
      intro i
      induction i using Nat.strongRecOn with
      | _ i ihi =>
       intro hi;cases hb:listed.getD i false with
       | true=>rfl
       | false =>
        exfalso;obtain ⟨x,hx1,a7⟩:=z i hi;have hf:=LG (b9 hx1)
        have:i∈Region.ready .any ops listed:=by
         rw [mem_ready];have g:i<listed.size:=by omega
         refine ⟨by simpa [g]using hb,x.o,a7,λe he c5=>?_⟩;have h5:=hf e he c5
         exact ihi e.on h5 (by omega)
        rw [a6]at this;cases this
     have e1:jh (λi=>listed.getD i false) 0 b s.st=s1.st:=by
      rw [f3];exact uT (λi _ hi=>v i (by omega))
     rw [e1]at hs;exact hQ _ _ _ _ hs
   ·obtain ⟨h3,o,h4,h5⟩:=mem_ready.1 hi;have b2:=(Array.getElem?_eq_some_iff.1 h4).1
    obtain ⟨x,hx1,a7⟩:=z i b2;rw [h4]at a7;cases a7;obtain ⟨_,q2,q3,q4,d6,q5⟩:=f4 i x hx1;simp only [acY]at q2 q5;have g:i<listed.size:=by omega
    have a3:listed.getD i false=false:=by simp [g]at h3 ⊢;exact h3
    have a1:∀ (m:Nat) (y:Rec),b[m]? = some y->listed.getD m false≠Nat.blt m i->BA y.o.dst (reads ops.toList x.o)=true/\(∀ id∈wr y.r,id∉x.r.f):=by
     intro m y p d;rcases Nat.lt_trichotomy m i with a0 | a0 | a0
     ·have hb:Nat.blt m i=true:=by rw [adV];exact a0
      rw [hb]at d;have hX:listed.getD m false=false:=by simpa using d
      rcases u a0 p hx1 with hn | he;rotate_left
      ·have:=sK q _ _ h5 he;rw [hX]at this;cases this
      ·simp only [Ba,abe]at hn;exact ⟨hn.1.1.1.1,λid hid hf=>xR hn.1.2 id hid (ad3 _ hf)⟩
     ·subst a0;have hb:Nat.blt m m=false:=by
       cases hb:Nat.blt m m with
       | false=>rfl
       | true=>have:=kF hb;omega
      rw [a3,hb]at d;exact absurd rfl d
     ·have hb:Nat.blt m i=false:=by
       cases hb:Nat.blt m i with
       | false=>rfl
       | true=>have:=kF hb;omega
      rw [hb]at d;have hX:listed.getD m false=true:=by simpa using d
      obtain ⟨y',a2,b4⟩:=z m (by have:=(List.getElem?_eq_some_iff.1 p).1;omega);rw [p]at a2;cases a2;rcases u a0 hx1 p with hn | he;rotate_left
      ·have:=sK q _ _ (q m y.o b4 hX) he;rw [a3]at this;cases this
      ·simp only [Ba,abe]at hn;exact ⟨hn.1.1.1.2,xR hn.2⟩
    have ht:∀ k∈reads ops.toList x.o,(jh (λi=>listed.getD i false) 0 b s.st).t k=(jh (λm=>Nat.blt m i) 0 b s.st).t k:=λk hk =>
     Ti rfl (λm y p d=>O5 (a1 m y p (by simpa using d)).1 k hk)
    have hm:∀ id∈x.r.f,(jh (λi=>listed.getD i false) 0 b s.st).m id=(jh (λm=>Nat.blt m i) 0 b s.st).m id:=λid hid =>
     Tj rfl (λm y p d hw=>(a1 m y p (by simpa using d)).2 id hw hid)
    have hg:=(OE ht).trans q2;have ho:=YF q5 (λk hk=>ht k (by unfold reads;exact ad9 _ hk)) hm
    have l:=Aw (Q:=Q) hT hE hs hg ho q4 q3 (K:=wpAnyIn (l9 rd) n P .any ops Q fuel (listed.setIfInBounds i true)) (rd:=rd) (n:=n) (λI' ρ' a' w' c7=>by
     refine ih (listed.setIfInBounds i true) I' ρ' a' w' (by simp [hsz]) ?_ ?_ ?_
     ·intro j oj hj a4 e' b8 b7;by_cases c0:j=i
      ·subst c0;rw [h4]at hj;cases hj;exact getD_set_true (h5 e' b8 b7)
      ·rw [getD_set_ne false (Ne.symm c0)]at a4;exact getD_set_true (q j oj hj a4 e' b8 b7)
     ·rw [Array.toList_setIfInBounds];have:=count_set listed.toList i (by simp [g]at h3 ⊢;exact h3)
      omega
     ·have e1:jh (λj=>(listed.setIfInBounds i true).getD j false) 0 b s.st=(jh (λi=>listed.getD i false) 0 b s.st).after x.o x.G x.r:=by
       refine J5 hx1 (by simpa using a3) (by simp [g]) (λj hj=>by rw [getD_set_ne false (by omega)]) (λj y b1 p a4=>?_);obtain ⟨y',a2,b4⟩:=z j (by have:=(List.getElem?_eq_some_iff.1 p).1;omega);rw [p]at a2;cases a2;rcases u b1 hx1 p with hn | he
       rotate_left
       ·have:=sK q _ _ (q j y.o b4 (by simpa using a4)) he;rw [a3]at this;cases this
       ·simp only [Ba,abe]at hn;exact ⟨hn.1.1.2,λid hid hf=>xR hn.1.2 id hid (ad9 _ hf)⟩
      rw [e1];exact c7)
    unfold wpOpIn;simp only [h4];by_cases hw:Region.wanted x.o (yielded ops a.tmps)=true
    ·rw [aaU hw]at l;rw [aaU hw];exact l
    ·rw [Y0 hw]at l;rw [Y0 hw];exact ⟨λ_ _=>trivial,l⟩
 refine main ops.size (Array.replicate ops.size false) I ρ a w (by simp) ?_ ?_ ?_
 ·intro j o hj hX;exfalso;have c6:=(Array.getElem?_eq_some_iff.1 hj).1
  simp [c6]at hX
 ·simp
 ·have e1:jh (λi=>(Array.replicate ops.size false).getD i false) 0 b s.st=s.st:=Bo (λi _=>by
   by_cases hi:i<ops.size
   ·simp [hi]
   ·simp [hi])
  rw [e1];exact hs
end
mutual
def CV (S:AV->AV->Prop):AV->AV->Prop
 | .agg t n g,y => ∃ a,y = .agg t n a /\ ∀ i,i<n->CV S (g i) (a i)
 | .row e f n g,y => ∃ c a,y = .row e c n a/\(c=true->f=true) /\ ∀ i,i<n->CV S (g i) (a i)
 | .rp t x,y => ∃ x',y = .rp t x'/\CV S x x'
 | .clo f cs,y => ∃ cs',y = .clo f cs'/\Y8 S cs cs'
 | .tup vs,y => ∃ b,y = .tup b/\Y8 S vs b
 | .v x,y=>S (.v x) y
 | .own id n i len cap,y=>S (.own id n i len cap) y
 | .arr id n i p lo len hi,y=>S (.arr id n i p lo len hi) y
 | .ptr id n i p,y=>S (.ptr id n i p) y
 | .mp id,y=>S (.mp id) y
def Y8 (S:AV->AV->Prop):List AV->List AV->Prop
 | [],l=>l=[]
 | x::r,l => ∃ y a,l=y::a/\CV S x y/\Y8 S r a
end
mutual
theorem CV.refl {S:AV->AV->Prop} (h:∀ x,S x x):∀ x,CV S x x
 | .agg t n g=>⟨g,rfl,λi _=>CV.refl h (g i)⟩
 | .row e f n g=>⟨f,g,rfl,λh=>h,λi _=>CV.refl h (g i)⟩
 | .rp t x=>⟨x,rfl,CV.refl h x⟩
 | .clo f cs=>⟨cs,rfl,Y8.refl h cs⟩
 | .tup vs=>⟨vs,rfl,Y8.refl h vs⟩
 | .v x=>h _
 | .own id n i len cap=>h _
 | .arr id n i p lo len hi=>h _
 | .ptr id n i p=>h _
 | .mp id=>h _
theorem Y8.refl {S:AV->AV->Prop} (h:∀ x,S x x):∀ l,Y8 S l l
 | []=>rfl
 | x::r=>⟨x,r,rfl,CV.refl h x,Y8.refl h r⟩
end
def xg:AV->AV->Prop:=CV (λx y=>x=y)
theorem xg.refl (x:AV):xg x x:=CV.refl (λ_=>rfl) x
theorem xg.agg {t n:Nat} {g a:Nat->AV} (h:∀ i,i<n->xg (g i) (a i)):xg (.agg t n g) (.agg t n a):=⟨a,rfl,h⟩
theorem xg.row {e n:Nat} {f a:Bool} {g b:Nat->AV} (hf:a=true->f=true) (h:∀ i,i<n->xg (g i) (b i)):xg (.row e f n g) (.row e a n b):=⟨a,b,rfl,hf,h⟩
theorem xg.of_eq {x y:AV} (h:x=y):xg x y:=h▸xg.refl x
def Fz (m:Id->Option Ob) (F:Id->Nat) (T:Nat->TI) (x y:AV):Prop:=x=y\/match x with
 | .v v=>v = .slice none 0 0/\((∃ id cap,y = .own id 0 0 0 cap) \/ ∃ e f g,y = .row e f 0 g/\0<(T e).size)
 | .own id n i len cap => ∃ B f a,m id=some (.cells B)/\B.n=n/\y = .row B.ty f len a/\(f=true->OJ len cap=true)/\i+len<=F id /\ ∀ j,j<len->fE (B.get (i+j))=true/\xg (B.get (i+j)) (a j)
 | .ptr id n i p => ∃ B t b,m id=some (.cells B)/\B.n=n/\y = .rp t b/\i<F id/\aY T B.ty p=some t/\fE ((B.get i).at p)=true/\xg ((B.get i).at p) b
 | _=>False
def Conv (m:Id->Option Ob) (F:Id->Nat) (T:Nat->TI):AV->AV->Prop:=CV (Fz m F T)
section
variable {P:Program} {T:Nat->TI} {N:Nat}
theorem Ro {S:AV->AV->Prop}:∀ {l a:List AV},Y8 S l a->a.length=l.length /\ ∀ (i:Nat) (y:AV),a[i]? = some y -> ∃ x,l[i]? = some x/\CV S x y
 | [],a,h=>by cases (show a=[]from h);exact ⟨rfl,λi y hi=>by simp at hi⟩
 | x::r,a,h=>by obtain ⟨y,f,rfl,b,c⟩:=h;obtain ⟨d,e⟩:=Ro c;refine ⟨by simp [d],λi z hi=>?_⟩;cases i with| zero=>simp at hi;subst hi;exact ⟨x,rfl,b⟩| succ i=>simpa using e i z (by simpa using hi)
def Ls:AV->Bool
 | .v _ | .own .. | .arr .. | .ptr .. | .mp _=>true
 | _=>false
def Ja (T:Nat->TI) (N:Nat) (I I':fK) (a:Pl) (S:AV->AV->Prop):Prop :=
 ∀ (ρ:Pl) (x y:AV) (cs:List Value),(∀ id p,ρ id=some p->a id=some p)->Ls x=true->S x y->Rep T N I ρ x cs->Rep T N I' ρ y cs /\ ∀ t,fit T t y=fit T t x
theorem Rep.cv {I I':fK} {s:Pl} {S:AV->AV->Prop} (hI:iK I I') (k:Ja T N I I' s S) {ρ:Pl} {x:AV} {cs:List Value} (h:Rep T N I ρ x cs):(∀ id p,ρ id=some p->s id=some p) -> ∀ y,CV S x y->Rep T N I' ρ y cs /\ ∀ t,fit T t y=fit T t x:=by
 induction h with| v h=>intro a y d;exact k _ _ _ _ a rfl d (.v h)| struct fs segs hk hn ht h hf hl g=>rintro a y ⟨w,rfl,d⟩;refine ⟨.struct fs segs hk hn ht (λi u l=>(g i u l a _ (d i (by rw [<- hn];exact (List.getElem?_eq_some_iff.1 l).1))).1) (λi u l=>?_) hl,λt=>rfl⟩;rw [(g i u l a _ (d i (by rw [<- hn];exact (List.getElem?_eq_some_iff.1 l).1))).2];exact hf i u l| array e segs hk ht h hf hl g=>rintro a y ⟨w,rfl,d⟩;refine ⟨.array e segs hk ht (λi f=>(g i f a _ (d i f)).1) (λi f=>?_) hl,λt=>rfl⟩;rw [(g i f a _ (d i f)).2];exact hf i f| row b off cap segs he hc hm hfull h hf hl hi g=>rintro a y ⟨z,w,rfl,n,d⟩;refine ⟨.row b off cap segs he hc hm (λe=>hfull (n e)) (λi f=>(g i f (λid p hp=>by simp [iG]at hp) _ (d i f)).1) (λi f=>?_) hl (λi q o r=>?_),λt=>rfl⟩;{rw [(g i f (λid p hp=>by simp [iG]at hp) _ (d i f)).2];exact hf i f};have j:=hi i q o r;(have m:o<(segs i).length:=by rw [hl i q];exact r);rw [aaR m]at j ⊢;exact hI _ _ _ j| row0 he=>rintro a y ⟨z,w,rfl,n,d⟩;exact ⟨.row0 he,λt=>rfl⟩| rp b off seg ht h hf hl hi g=>rintro a y ⟨x',rfl,d⟩;obtain ⟨g1,g2⟩:=g (λid p hp=>by simp [iG]at hp) _ d;refine ⟨.rp b off seg ht g1 (by rw [g2];exact hf) hl (λo r=>?_),λt=>rfl⟩;have j:=hi o r;(have m:o<seg.length:=by rw [hl];exact r);rw [aaR m]at j ⊢;exact hI _ _ _ j| own p hp hn hx1 hx=>intro a y d;exact k _ _ _ _ a rfl d (.own p hp hn hx1 hx)| own0=>intro a y d;exact k _ _ _ _ a rfl d .own0| arr p hp hn hx1 hx=>intro a y d;exact k _ _ _ _ a rfl d (.arr p hp hn hx1 hx)| ptr p hp hn hx1 hx=>intro a y d;exact k _ _ _ _ a rfl d (.ptr p hp hn hx1 hx)| clo ys hl h g=>rintro a y ⟨cs',rfl,d⟩;obtain ⟨j,m⟩:=Ro d;refine ⟨.clo ys (by rw [j];exact hl) (λi c hc=>?_),λt=>rfl⟩;obtain ⟨x',h3,h4⟩:=m i c hc;exact (g i x' h3 a _ h4).1| mp p hp hx1 hx=>intro a y d;exact k _ _ _ _ a rfl d (.mp p hp hx1 hx)
theorem Z7 (I I':fK) (a:Pl) (hI:iK I I'):Ja T N I I' a (λx y=>x=y):=by
 rintro ρ x y cs b _ rfl h;exact ⟨h.mono hI (iJ.refl _),λt=>rfl⟩
theorem Rep.aeq {I:fK} {ρ:Pl} {x y:AV} {cs:List Value} (h:Rep T N I ρ x cs) (a:xg x y):Rep T N I ρ y cs /\ ∀ t,fit T t y=fit T t x :=
 h.cv (iK.refl _) (Z7 I I ρ (iK.refl _)) (λ_ _ h=>h) y a
theorem Oh {S:AV->AV->Prop} (c:∀ x y,Ls x=true->S x y -> ∀ t n g,y ≠ .agg t n g) {x y:AV} (h:CV S x y) (cs:List Value):fF y cs=fF x cs:=by
 have leaf:∀ x y:AV,Ls x=true->S x y->fF y cs=fF x cs:=by intro x y hx h;have b:=c x y hx h;unfold fF;split;{exact absurd rfl (b _ _ _)};split;{cases hx};rfl
 cases x with| agg t n g=>obtain ⟨a,rfl,_⟩:=h;rfl| row e f n g=>obtain ⟨i,a,rfl,_⟩:=h;rfl| rp t x=>obtain ⟨x',rfl,_⟩:=h;rfl| clo f cs=>obtain ⟨cs',rfl,_⟩:=h;rfl| tup vs=>obtain ⟨d,rfl,_⟩:=h;rfl| _=>exact leaf _ _ rfl h
theorem LD (hT:jf P T N) {I:fK} {r:Pl} {m:Id->Option Ob} {w:World} (hw:dY T N I r m w) {I':fK} (hI:iK I I') {F:Id->Nat}
 (hF:∀ id B q cs,m id=some (.cells B)->r id=some q->w.heap[q.b]? = some (.cells cs B.ty (0,0))->F id<=B.n /\ ∀ j,j<F id*(T B.ty).size->I' q.b j=cs[j]?):Ja T N I I' r (Fz m F T):=by
 intro ρ x y cs v hl h hx;rcases h with rfl | h
 ·exact ⟨hx.mono hI (iJ.refl _),λt=>rfl⟩
 ·split at h
  ·obtain ⟨rfl,⟨id,cap,rfl⟩ | ⟨e,f,g,rfl,hp⟩⟩:=h
   ·cases hx;exact ⟨.own0,λt=>rfl⟩
   ·cases hx;exact ⟨.row0 (hT.lt_size hp),λt=>rfl⟩
  ·rename_i id n i len cap;obtain ⟨B,f,g',hm,hB,rfl,hf,a2,l⟩:=h;refine ⟨?_,λt=>rfl⟩
   cases hx with
   | own0=>exact .row0 (hw.ty_lt hm)
   | own p hp hn hx1 hx =>
    have d:=v _ _ hp;obtain ⟨q',cs,c1,c2,c3,c4,c5,c6,c7,c8,c9,z⟩:=hw.cellsAt hm d;rw [d]at c1;cases c1;obtain ⟨c,rfl,g1,g2,g3,g4,g5,g6⟩:=hx (by rw [c3,hB]);obtain ⟨f1,f2⟩:=hF id B p cs hm d c5;have hex:∀ k,∃ seg,k<len->Rep T N I r (B.get (i+k)) seg/\fit T B.ty (B.get (i+k))=true/\seg.length=(T B.ty).size /\ ∀ o,o<(T B.ty).size->cs[(i+k)*(T B.ty).size+o]? = seg[o]? := by
     intro k;by_cases hk:k<len
     ·obtain ⟨seg,hs⟩:=c8 (i+k) (by omega);exact ⟨seg,λ_=>hs⟩
     ·exact ⟨[],λh=>absurd h hk⟩
    have a:=λk=>adt (hex k);refine .row p.b (i*(T p.ty).size) c (λk=>Classical.choose (hex k)) c4 g1 g2 (λh=>g6 _ (OI (hf h))) (λk hk=>((((a k hk).1.fE (l k hk).1 iG).mono hI (iJ.refl _)).aeq (l k hk).2).1) (λk hk=>?_) (λk hk=>(a k hk).2.2.1) (λk hk o ho=>?_)
    ·rw [((a k hk).1.aeq (l k hk).2).2];exact (a k hk).2.1
    ·have h1:=(a k hk).2.2.2 o ho;rw [<- h1,c2];have e1:i*(T B.ty).size+(k*(T B.ty).size+o)=(i+k)*(T B.ty).size+o:=by rw [adD];omega
     have e2:(i+k+1)*(T B.ty).size<=F id*(T B.ty).size:=ab7 _ (by omega);rw [adK]at e2;rw [e1];exact f2 _ (by omega)
  ·rename_i id n i p;obtain ⟨B,t,y',hm,hB,rfl,b7,u,a3,l⟩:=h;refine ⟨?_,λt=>rfl⟩
   cases hx with
   | ptr q hp hn hx1 hx =>
    have d:=v _ _ hp;obtain ⟨q',cs,c1,c2,c3,c4,c5,c6,c7,c8,c9,z⟩:=hw.cellsAt hm d;rw [d]at c1;cases c1;obtain ⟨hi,a5,rfl⟩:=hx (by rw [c3,hB]);obtain ⟨f1,f2⟩:=hF id B q cs hm d c5;have s:pathIn T B.ty p:=c2▸a5
    obtain ⟨sg,r1,r2,r3,r4⟩:=c8 i (by omega);obtain ⟨seg,k1,k2,k3,k4⟩:=r1.at p r2 r3 u s;have a2:=l7 r1 r2 r3 u s
    have ha:=((k1.fE a3 iG).mono hI (iJ.refl _)).aeq l;refine .rp q.b (i*(T q.ty).size+aG T q.ty p) seg (hT.pathLt p c4 u) ha.1 (by rw [ha.2];exact k2) k3 (λo ho=>?_);rw [c2,<- k4 o ho];have e2:(i+1)*(T B.ty).size<=F id*(T B.ty).size:=ab7 _ (by omega)
    rw [adK]at e2;rw [adN,f2 _ (by omega),r4 _ (by omega)]
  ·exact h.elim
end
def lW (k:Nat):List (Nat×AV)->Option AV
 | []=>none
 | (j,x)::r=>bif Nat.beq k j then some x else lW k r
def ng (id:Id):List (Id×Ob)->Option Ob
 | []=>none
 | (j,x)::r=>bif Id.beq id j then some x else ng id r
def dX (id:Id):List (Id×Nat)->Nat
 | []=>0
 | (j,x)::r=>bif Id.beq id j then x else dX id r
def aN (ts:List (Nat×AV)) (ms:List (Id×Ob)):St:=⟨λk=>(lW k ts).map λx=>(.always,x),λid=>ng id ms⟩
def ObC (m:Id->Option Ob) (F:Id->Nat) (T:Nat->TI) (k:Nat):Ob->Ob->Prop
 | .cells B,o => ∃ get fz,o = .cells ⟨B.ty,B.n,get,fz⟩/\B.fz<=fz/\k<=fz/\fz<=B.n /\ ∀ i,i<B.n->Conv m F T (B.get i) (get i)
 | .map es,o=>o = .map es \/ ∃ a,o = .map a/\a.length=es.length /\ ∀ (i:Nat) (p':AV×AV),a[i]? = some p' -> ∃ p,es[i]? = some p/\Conv m F T p.1 p'.1/\Conv m F T p.2 p'.2
def Iz (T:Nat->TI) (st:St) (F:List (Id×Nat)) (keep:List Id):List (Nat×AV)->Prop
 | []=>True
 | (k,x)::r=>(fH keep x=true /\ ∃ x',st.t k=some (.always,x')/\Conv st.m (λid=>dX id F) T x' x)/\Iz T st F keep r
def IB (T:Nat->TI) (st:St) (F:List (Id×Nat)) (keep:List Id):List (Id×Ob)->Prop
 | []=>True
 | (id,o)::r=>(okO keep o/\((∃ a,st.m id=some a/\ObC st.m (λid=>dX id F) T (dX id F) a o) \/
  (st.m id=none /\ ∃ e get,o = .cells ⟨e,0,get,0⟩/\0<(T e).size)))/\IB T st F keep r
def IC (st:St):List (Id×Nat)->Prop
 | []=>True
 | (id,k)::r=>(∃ B,st.m id=some (.cells B)/\k<=B.n)/\IC st r
section
variable {P:Program} {T:Nat->TI} {N:Nat}
theorem Bg {k:Nat}:∀ {l:List (Nat×AV)} {x:AV},lW k l=some x->(k,x)∈l
 | [],_,h=>by cases h
 | (j,y)::r,x,h=>by by_cases e:k=j;{subst e;simp [lW]at h;subst h;simp};simp only [lW,kJ e,ads]at h;exact adz _ (Bg h)
theorem xM {id:Id}:∀ {l:List (Id×Ob)} {x:Ob},ng id l=some x->(id,x)∈l
 | [],_,h=>by cases h
 | (j,y)::r,x,h=>by by_cases e:id=j;{subst e;simp [ng,aU]at h;subst h;simp};simp only [ng,tZ e,ads]at h;exact adz _ (xM h)
theorem JM {id:Id}:∀ {l:List (Id×Ob)},gX (l.map (·.1)) id=true->ng id l≠none
 | [],h=>by cases h
 | (j,y)::r,h=>by by_cases e:id=j;{subst e;simp [ng,aU]};simp only [ng,tZ e,ads];refine JM ?_;rw [jq]at h ⊢;simp only [aeh,adZ]at h;exact h.resolve_left e
theorem QC {id:Id} {l:List (Id×Ob)} {x:Ob} (h:ng id l=some x):gX (l.map (·.1)) id=true:=by
 rw [jq];exact List.mem_map.2 ⟨_,xM h,rfl⟩
theorem Tz {st:St} {F:List (Id×Nat)} {keep:List Id}:∀ {l:List (Nat×AV)} {k:Nat} {x:AV},Iz T st F keep l->(k,x)∈l->fH keep x=true /\ ∃ x',st.t k=some (.always,x')/\Conv st.m (λid=>dX id F) T x' x
 | [],_,_,_,h=>by cases h
 | (j,y)::r,k,x,h,hm=>by cases hm with| head=>exact h.1| tail _ hm=>exact Tz h.2 hm
theorem LQ {st:St} {F:List (Id×Nat)} {keep:List Id}:∀ {l:List (Id×Ob)} {id:Id} {o:Ob},IB T st F keep l->(id,o)∈l->okO keep o/\((∃ a,st.m id=some a/\ObC st.m (λid=>dX id F) T (dX id F) a o) \/
 (st.m id=none /\ ∃ e get,o = .cells ⟨e,0,get,0⟩/\0<(T e).size))
 | [],_,_,_,h=>by cases h
 | (j,y)::r,k,x,h,hm=>by cases hm with| head=>exact h.1| tail _ hm=>exact LQ h.2 hm
theorem FX {st:St}:∀ {l:List (Id×Nat)},IC st l -> ∀ {id:Id} {B:zI},st.m id=some (.cells B)->dX id l<=B.n
 | [],_,_,_,_=>abM _
 | (j,k)::r,h,id,B,hm=>by by_cases e:id=j;{subst e;obtain ⟨B',a,b⟩:=h.1;rw [hm]at a;cases a;simpa [dX,aU]using b};simp only [dX,tZ e,ads];exact FX h.2 hm
def zk (keep:List Id) (ρ:Pl):Pl:=λid=>if gX keep id=true then ρ id else none
theorem Rep.keep {I:fK} {ρ:Pl} {x:AV} {cs:List Value} (h:Rep T N I ρ x cs):∀ {keep:List Id},fH keep x=true->Rep T N I (zk keep ρ) x cs:=by
 have hk:∀ {ρ:Pl} {keep:List Id} {id:Id} {p:Place},gX keep id=true->ρ id=some p->zk keep ρ id=some p:=λh hp=>by unfold zk;rw [aaU h];exact hp
 induction h with| v h=>intro _ _;exact .v h| struct fs segs a hn ht h hf hl d=>intro keep hi;simp only [fH,adp,adE]at hi;exact .struct fs segs a hn ht (λi u g=>d i u g (hi i (by rw [<- hn];exact (List.getElem?_eq_some_iff.1 g).1))) hf hl| array e segs a ht h hf hl d=>intro keep hi;simp only [fH,adp,adE]at hi;exact .array e segs a ht (λi f=>d i f (hi i f)) hf hl| row b off cap segs he hc hm hfull h hf hl hI d=>intro _ _;exact .row b off cap segs he hc hm hfull h hf hl hI| row0 he=>intro _ _;exact .row0 he| rp b off seg ht h hf hl hI=>intro _ _;exact .rp b off seg ht h hf hl hI| own p hp hn hx1 hx=>intro keep hi;exact .own p (hk hi hp) hn hx1 hx| own0=>intro _ _;exact .own0| arr p hp hn hx1 hx=>intro keep hi;exact .arr p (hk hi hp) hn hx1 hx| ptr p hp hn hx1 hx=>intro keep hi;exact .ptr p (hk hi hp) hn hx1 hx| clo ys hl h d=>intro keep hi;simp only [fH,wG,adp]at hi;exact .clo ys hl (λi c hc=>d i c hc (hi c (ac8 hc)))| mp p hp hx1 hx=>intro keep hi;exact .mp p (hk hi hp) hx1 hx
theorem dU.keep {I:fK} {ρ:Pl} {x:AV} {y:Value} (h:dU T N I ρ x y) {keep:List Id} (hk:fH keep x=true):dU T N I (zk keep ρ) x y:=by
 obtain ⟨cs,a,b⟩:=h;exact ⟨cs,a.keep hk,b⟩
theorem gB.keep {I:fK} {ρ:Pl} {x:AV} {y:Value} (h:gB T N I ρ x y) {keep:List Id} (hk:fH keep x=true):gB T N I (zk keep ρ) x y:=by
 cases h with| one h=>exact .one (h.keep hk)| tup ys hl h=>simp only [fH,wG,adp]at hk;exact .tup ys hl (λi c hc=>(h i c hc).keep (hk c (ac8 hc)))
theorem OH {m:Id->Option Ob} {F:Id->Nat} (x y:AV) (hx:Ls x=true) (h:Fz m F T x y):∀ t n g,y ≠ .agg t n g:=by
 rintro t n g rfl;rcases h with rfl | h
 ·cases hx
 split at h;{obtain ⟨_,⟨_,_,h⟩ | ⟨_,_,_,h,_⟩⟩:=h <;> cases h};{obtain ⟨_,_,_,_,_,h,_⟩:=h;cases h};{obtain ⟨_,_,_,_,_,h,_⟩:=h;cases h};exact h
theorem gB.conv {I I':fK} {ρ:Pl} {m:Id->Option Ob} {F:Id->Nat} {x y:AV} {v:Value} (h:gB T N I ρ x v) (hI:iK I I') (f:Ja T N I I' ρ (Fz m F T)) (hc:Conv m F T x y):gB T N I' ρ y v:=by
 have one:∀ {x y:AV} {v:Value},dU T N I ρ x v->Conv m F T x y->dU T N I' ρ y v:=by rintro x y v ⟨cs,a,b⟩ hc;exact ⟨cs,(a.cv hI f (λ_ _ h=>h) y hc).1,by rw [Oh OH hc];exact b⟩
 cases h with| one h=>exact .one (one h hc)| tup ys hl h=>obtain ⟨j,rfl,g⟩:=hc;obtain ⟨a,b⟩:=Ro g;refine .tup ys (by rw [a];exact hl) (λi c hi=>?_);obtain ⟨x',d,e⟩:=b i c hi;exact one (h i x' d) e
theorem dU.conv {I I':fK} {ρ:Pl} {m:Id->Option Ob} {F:Id->Nat} {x y:AV} {v:Value} (h:dU T N I ρ x v) (hI:iK I I') (c:Ja T N I I' ρ (Fz m F T)) (hc:Conv m F T x y):dU T N I' ρ y v:=by
 obtain ⟨cs,a,b⟩:=h;exact ⟨cs,(a.cv hI c (λ_ _ h=>h) y hc).1,by rw [Oh OH hc];exact b⟩
open Classical in
noncomputable def yK (T:Nat->TI) (I:fK) (ρ:Pl) (m:Id->Option Ob) (w:World) (F:Id->Nat):fK:=λb o =>
 if ∃ id q B,ρ id=some q/\m id=some (.cells B)/\q.b=b/\o<F id*(T B.ty).size then w.cell? ⟨b,o,none⟩else I b o
theorem abN (hT:jf P T N) {e:Entry} {st:St} (F:List (Id×Nat)) {ts:List (Nat×AV)} {ms:List (Id×Ob)} (hF:IC st F) (ht:Iz T st F (ms.map (·.1)) ts) (hm:IB T st F (ms.map (·.1)) ms) (hb:(bs e.nb).all (gX (ms.map (·.1)))=true)
 {I:fK} {ρ:Pl} {a:Act} {w:World} (hs:gJ T N e I ρ st a w):∃ I' ρ',gJ T N e I' ρ' (aN ts ms) a w:=by
 have hw:=hs.wr;have e0:∀ {b o:Nat},(∃ id q B,ρ id=some q/\st.m id=some (.cells B)/\q.b=b/\o<dX id F*(T B.ty).size) -> ∃ id q B cs,ρ id=some q/\st.m id=some (.cells B)/\q.b=b/\o<dX id F*(T B.ty).size/\w.heap[b]? = some (.cells cs B.ty (0,0))/\o<cs.size/\w.cell? ⟨b,o,none⟩=cs[o]? := by
  rintro b o ⟨id,q,B,r,c,rfl,h4⟩;obtain ⟨q',cs,c1,c2,c3,c4,c5,c6,c7,c8,c9,f1⟩:=hw.cellsAt c r;rw [r]at c1;cases c1;have:dX id F*(T B.ty).size<=B.n*(T B.ty).size:=ab7 _ (FX hF c)
  exact ⟨id,q,B,cs,r,c,rfl,h4,c5,by omega,by simp [World.cell?,c5]⟩
 have hI:iK I (yK T I ρ st.m w (λid=>dX id F)):=by
  intro b o y h;unfold yK;split
  ·exact hw.imm b o y h
  ·exact h
 have hS:=LD hT hw hI (F:=λid=>dX id F) (λid B q cs r c z=>⟨FX hF r,λj hj=>by
  unfold yK;rw [aaU ⟨id,q,B,c,r,rfl,hj⟩];simp [World.cell?,z]⟩)
 have f:∀ {id:Id} {o:Ob},ng id ms=some o->zk (ms.map (·.1)) ρ id=ρ id:=λh=>by unfold zk;rw [aaU (QC h)]
 have u:∀ {id:Id} {p:Place},zk (ms.map (·.1)) ρ id=some p->ρ id=some p/\gX (ms.map (·.1)) id=true:=λ{id p} h=>by
  unfold zk at h;split at h
  ·rename_i hh;exact ⟨h,hh⟩
  ·cases h
 refine ⟨yK T I ρ st.m w (λid=>dX id F),zk (ms.map (·.1)) ρ,⟨⟨?_,?_,?_,?_,?_,λb o n h=>hI _ _ _ (hw.gl b o n h)⟩,?_,hs.nt,⟨hs.df.1.sub (λid p hp=>⟨id,(u hp).1⟩),hs.df.2⟩,?_,hs.eb⟩⟩
 ·intro id B' g;have g:ng id ms=some (.cells B'):=g
  obtain ⟨a0,h⟩:=LQ hm (xM g);rcases h with ⟨o',r,c⟩ | ⟨r,e',get,c,z⟩
  ·cases o' with
   | map es=>rcases c with c | ⟨b4,c,_⟩ <;> cases c
   | cells B =>
    obtain ⟨get,fz,c,z,h4,h5,h6⟩:=c;cases c;rcases hw.cells id B r with ⟨d1,d2,d3,d4⟩ | ⟨p,cs,d1,d2,d3,d4,d5,d6,d7,d8,d9,d10⟩
    ·exact .inl ⟨by rw [f g];exact d1,d2,by simp only;omega,d4⟩
    ·refine .inr ⟨p,cs,by rw [f g];exact d1,d2,d3,d4,d5,d6,d7,λi hi=>?_,λj hj=>?_,h5⟩
     ·obtain ⟨seg,e1,e2,e3,e4⟩:=d8 i hi;obtain ⟨g1,g2⟩:=e1.cv hI hS (λ_ _ h=>h) _ (h6 i hi);exact ⟨seg,g1.keep (a0 i hi),by rw [g2];exact e2,e3,e4⟩
     ·unfold yK at hj;split at hj
      ·rename_i s;obtain ⟨a6,q2,B2,k1,k2,k3,k4⟩:=s;have:=hw.inj a6 id q2 p k1 d1 k3
       subst this;rw [r]at k2;cases k2;exact adC k4 (ab7 _ h4)
      ·exact adC (d9 j hj) (ab7 _ z)
  ·cases c;exact .inl ⟨by rw [f g];exact hw.none_place r,rfl,rfl,hT.lt_size z⟩
 ·intro id b4 g;have g:ng id ms=some (.map b4):=g
  obtain ⟨a0,h⟩:=LQ hm (xM g);rcases h with ⟨o',r,c⟩ | ⟨r,e',get,c,z⟩
  ·cases o' with
   | cells B=>obtain ⟨get,fz,c,_⟩:=c;cases c
   | map es =>
    obtain ⟨p,en,cl,d1,d2,d3,d4,d5,d6⟩:=hw.maps id es r;have b5:∀ j,yK T I ρ st.m w (λid=>dX id F) p.b j=none:=by
     intro j;unfold yK;split
     ·rename_i s;obtain ⟨a6,q2,B2,k1,k2,k3,k4⟩:=s;have:=hw.inj a6 id q2 p k1 d1 k3
      subst this;rw [r]at k2;cases k2
     ·exact d5 j
    rcases c with c | ⟨f4,c,z,h4⟩
    ·cases c;refine ⟨p,en,cl,by rw [f g];exact d1,d2,d3,d4,b5,λi k v hi=>?_⟩;obtain ⟨e,e1,e2,e3⟩:=d6 i k v hi;have:=a0 _ (ac8 hi)
     exact ⟨e,e1,(e2.mono hI (iJ.refl _)).keep this.1,(e3.mono hI (iJ.refl _)).keep this.2⟩
    ·cases c;refine ⟨p,en,cl,by rw [f g];exact d1,d2,d3,by rw [z];exact d4,b5,λi k v hi=>?_⟩;obtain ⟨pp,k1,k2,k3⟩:=h4 i _ hi;obtain ⟨e,e1,e2,e3⟩:=d6 i pp.1 pp.2 k1;have:=a0 _ (ac8 hi)
     exact ⟨e,e1,(e2.conv hI hS k2).keep this.1,(e3.conv hI hS k3).keep this.2⟩
  ·cases c
 ·intro id p hp;exact JM (u hp).2
 ·intro i j p q hp hq h;exact hw.inj i j p q (u hp).1 (u hq).1 h
 ·intro b o y hy;unfold yK at hy;split at hy
  ·exact hy
  ·exact hw.imm b o y hy
 ·intro t d x hx;simp only [aN,ade,adJ]at hx;obtain ⟨x0,r,rfl,rfl⟩:=hx;obtain ⟨c,x',z,h4⟩:=Tz ht (Bg r);refine ⟨λ_=>?_,λh=>absurd trivial h⟩;exact (((hs.tm t _ _ z).1 trivial).conv hI hS h4).keep c
 ·have l:=hs.ev;refine ⟨l.imm.trans hI,λb o h h'=>?_,λid p hp=>?_,λid p hp=>l.plN id p (u hp).1,l.frame,l.size,l.os,l.output,l.tape⟩
  ·unfold yK at h';split at h'
   ·rename_i s;obtain ⟨id,q,B,k1,k2,rfl,k4⟩:=s;exact l.plN id q k1
   ·exact l.immN b o h h'
  ·obtain ⟨j,hj,rfl⟩:=hs.eb id p hp;have:gX (ms.map (·.1)) (.b j)=true:=List.all_eq_true.1 hb _ (jq.1 (YX.2 ⟨j,hj,rfl⟩))
   obtain ⟨p',r,c⟩:=l.pl _ p hp;exact ⟨p',by unfold zk;rw [aaU this];exact r,c⟩
end
abbrev Post:=Exit->St->Prop
def Rfn (r:Option Nat) (d:Bool):Prop:=r=none/\d=false
def WP (R:Option Nat->Bool->Prop) (P:Program) (T:Nat->TI) (N nt nb:Nat) (c:Code) (post:Post) (st:St):Prop :=
 ∀ (e:Entry),e.nt=nt->e.nb=nb -> ∀ (I:fK) (ρ:Pl) (a:Act) (w:World),gJ T N e I ρ st a w -> ∀ (rd:Option Nat),R rd e.nd -> ∀ n:Nat,
  c.wpIn (l9 rd) n P (λex b w' => ∃ st' I' ρ',post ex st'/\gJ T N e I' ρ' st' b w') a w
def uY (T:Nat->TI) (N nt nb:Nat) (st st':St):Prop := ∀ (e:Entry),e.nt=nt->e.nb=nb -> ∀ (I:fK) (ρ:Pl) (a:Act) (w:World),gJ T N e I ρ st a w -> ∃ I' ρ',gJ T N e I' ρ' st' a w
def RI (next:St->Prop) (post:Post):Post:=λex st=>match ex with
 | .normal=>next st
 | ex=>post ex st
def aaA (id:Nat) (post:Post):Post:=λex st=>match ex with
 | .exit a=>bif Nat.beq a id then post .normal st else post (.exit a) st
 | ex=>post ex st
section
variable {R:Option Nat->Bool->Prop} {P:Program} {T:Nat->TI} {N nt nb:Nat} {post:Post} {st:St}
theorem uY.refl (st:St):uY T N nt nb st st:=λ_ _ _ I ρ _ _ h=>⟨I,ρ,h⟩
theorem uY.trans {st st1 st2:St} (h:uY T N nt nb st st1) (k:uY T N nt nb st1 st2):uY T N nt nb st st2:=λe d f I ρ a w i=>by
 obtain ⟨g,c,b⟩:=h e d f I ρ a w i;exact k e d f g c a w b
theorem uY.mk (hT:jf P T N) (F:List (Id×Nat)) {ts:List (Nat×AV)} {ms:List (Id×Ob)} (hF:IC st F) (ht:Iz T st F (ms.map (·.1)) ts) (hm:IB T st F (ms.map (·.1)) ms) (hb:(bs nb).all (gX (ms.map (·.1)))=true):uY T N nt nb st (aN ts ms) :=
 λe d b I ρ a w c=>abN hT F hF ht hm (by rw [b];exact hb) c
theorem WP.ent {c:Code} {st':St} (h:uY T N nt nb st st') (k:WP R P T N nt nb c post st'):WP R P T N nt nb c post st:=λe d f I ρ a w g=>by
 obtain ⟨I',ρ',b⟩:=h e d f I ρ a w g;exact k e d f I' ρ' a w b
theorem WP.mono {c:Code} {b:Post} (h:WP R P T N nt nb c post st) (k:∀ ex st,post ex st->b ex st):WP R P T N nt nb c b st:=λe d f I ρ a w i rd g n =>
 wpIn_mono (h e d f I ρ a w i rd g n) (λex a w ⟨st',I',ρ',q,r⟩=>⟨st',I',ρ',k _ _ q,r⟩)
theorem WP.skip (h:post .normal st):WP R P T N nt nb .skip post st:=λe c d I ρ a w b rd f n=>wpIn_skip ⟨st,I,ρ,h,b⟩
theorem WP.exit {id:Nat} (h:post (.exit id) st):WP R P T N nt nb (.exit id) post st:=λe c d I ρ a w b rd f n=>wpIn_exit ⟨st,I,ρ,h,b⟩
theorem WP.ret (h:post .ret st):WP R P T N nt nb .ret post st:=λe c d I ρ a w b rd f n=>wpIn_ret ⟨st,I,ρ,h,b⟩
theorem WP.seq {x y:Code} (h:WP R P T N nt nb x (RI (WP R P T N nt nb y post) post) st):WP R P T N nt nb (.seq x y) post st:=λe b c I ρ a w g rd d n=>by
 refine wpIn_seq (wpIn_mono (h e b c I ρ a w g rd d n) ?_);rintro ex f w' ⟨st',I',ρ',q,r⟩;cases ex with
 | normal=>exact q e b c I' ρ' f w' r rd d n
 | _=>exact ⟨st',I',ρ',q,r⟩
theorem WP.block {id:Nat} {c:Code} (h:WP R P T N nt nb c (aaA id post) st):WP R P T N nt nb (.block id c) post st:=λe b d I ρ a w g rd f n=>by
 refine wpIn_block (wpIn_mono (h e b d I ρ a w g rd f n) ?_);rintro ex i w' ⟨st',I',ρ',q,r⟩;cases ex with
 | exit id' =>
  simp only [Exit.inBlock];by_cases hi:id'=id
  ·subst hi;rw [aaU rfl];simp only [aaA,aeY,adv]at q;exact ⟨st',I',ρ',q,r⟩
  ·rw [Y0 hi];simp only [aaA,kJ hi,ads]at q;exact ⟨st',I',ρ',q,r⟩
 | _=>exact ⟨st',I',ρ',q,r⟩
theorem WP.cond {c:Operand} {x y:Code} {b:Bool} (hc:ev st c=some (.always,.v (.bool b))) (ht:b=true->WP R P T N nt nb x post st) (hf:b=false->WP R P T N nt nb y post st):WP R P T N nt nb (.cond c x y) post st:=λe f g I ρ a w d rd i n=>by
 obtain ⟨j,_⟩:=(zu d hc trivial).v;refine wpIn_cond_split j (λh=>ht h e f g I ρ a w d rd i n) (λh=>hf h e f g I ρ a w d rd i n)
theorem WP.region (hT:jf P T N) (hE:wZ P T N) {id:Nat} {ops:Array Oper} {s':RS} (gs:List CG) (h:VK T (AC P T N) nt ops.toList ops.toList ⟨st,gs,none⟩=some s') (hc:ay s'.c) (hp:post .normal s'.st):WP R P T N nt nb (.region id ops false) post st:=λe d i I ρ a w f rd j n=>by
 subst d;exact wpIn_region_list ((J8 hT hE ops.toList ⟨st,gs,none⟩ s' f h hc (λI' ρ' g w' b=>⟨s'.st,I',ρ',hp,b⟩) rd n).2)
theorem gJ.drew {e:Entry} {I:fK} {ρ:Pl} {a:Act} {w:World} (b:gJ T N e I ρ st a w) {d:Nat} (hd:w.drawn<=d):gJ T N e I ρ st a { w with drawn:=d} where
 wr:=⟨b.wr.cells,b.wr.maps,b.wr.dom,b.wr.inj,b.wr.imm,b.wr.gl⟩
 tm:=b.tm
 nt:=b.nt
 df:=b.df
 ev:=⟨b.ev.imm,b.ev.immN,b.ev.pl,b.ev.plN,b.ev.frame,b.ev.size,b.ev.os,b.ev.output,b.ev.tape.1,aej b.ev.tape.2 hd⟩
 eb:=b.eb
theorem WP.draws (hT:jf P T N) (hE:wZ P T N) (b:P.follows .mixedOrders=true) {id:Nat} {ops:Array Oper} {s':RS} (gs:List CG) (h:evA T (AC P T N) nt ops.toList ⟨st,gs,none⟩=some s') (hc:ay s'.c) (hp:post .normal s'.st):WP R P T N nt nb (.region id ops true) post st:=λe f j I ρ a w g rd k n=>by
 subst f;exact wpIn_region_any b (Vw hT hE h hc (λI' ρ' i w' d=>⟨s'.st,I',ρ',hp,d⟩) (g.drew (aeG _)) rd n)
theorem WP.loop {c:Code} {α:Type} (S:α->St) (Inv:α->Prop) (z:α->Nat) (h0:∃ x,Inv x/\uY T N nt nb st (S x))
 (round:∀ x,Inv x->WP R P T N nt nb c (RI (λst' => ∃ y,Inv y/\uY T N nt nb st' (S y)/\z y<z x) post) (S x)):WP R P T N nt nb (.loop c) post st:=λe h1 h2 I ρ a w hs rd hr n=>by
 intro b k cs a4 hb i;have key:∀ j x a w,z x=j->Inv x->(∃ I ρ,gJ T N e I ρ (S x) a w) ->
  ∃ ex v w',(∃ st' I' ρ',post ex st'/\gJ T N e I' ρ' st' v w')/\ArrivesIn (Machine.fenced P (l9 rd)) P (lone (b.atR a (.code c :: .inLoop c::k)) cs w) b k cs ex v w':=by
  intro j
  induction j using Nat.strongRecOn with
  | _ j ih =>
   rintro x a w hn hI ⟨I,ρ,hs⟩;obtain ⟨ex,d,g,⟨st',I',ρ',q,h⟩,f⟩:=round x hI e h1 h2 I ρ a w hs rd hr n b (.inLoop c::k) cs a4 hb i;cases ex with
   | normal =>
    obtain ⟨y,hy,t,a3⟩:=q;obtain ⟨I2,a7,a6⟩:=t e h1 h2 I' ρ' d g h;obtain ⟨s,r,u,p,m⟩:=ih (z y) (hn▸a3) y d g rfl hy ⟨I2,a7,a6⟩;exact ⟨s,r,u,p,.of_steps (StepsIn.trans f (.one (fenced_calm (fr:=b.atR d (.inLoop c::k)) hb i rfl) stepR_inLoop)) m⟩
   | exit id=>exact ⟨_,d,g,⟨st',I',ρ',q,h⟩,.pass (x := .inLoop c) rfl (λ_ _ => .inl (by simp)) f⟩
   | goto l=>exact ⟨_,d,g,⟨st',I',ρ',q,h⟩,.pass (x := .inLoop c) rfl (λ_ _ => .inl (by simp)) f⟩
   | ret=>exact ⟨_,d,g,⟨st',I',ρ',q,h⟩,.pass (x := .inLoop c) rfl (λ_ _ => .inl (by simp)) f⟩
   | panic ch=>exact ⟨_,d,g,⟨st',I',ρ',q,h⟩,.pass (x := .inLoop c) rfl (λ_ _ => .inl (by simp)) f⟩
   | outgrown=>exact ⟨_,d,g,⟨st',I',ρ',q,h⟩,.pass (x := .inLoop c) rfl (λ_ _ => .inl (by simp)) f⟩
 obtain ⟨x0,a2,o⟩:=h0;obtain ⟨I',ρ',h⟩:=o e h1 h2 I ρ a w hs;obtain ⟨e2,v,w',hq,f⟩:=key _ x0 a w rfl a2 ⟨I',ρ',h⟩;exact ⟨e2,v,w',hq,.of_steps (.one (fenced_calm (fr:=b.atR a (.code (.loop c)::k)) hb i rfl) stepR_loop) f⟩
def pI:AV->Bool
 | .tup _=>false
 | _=>true
def y5 (T:Nat->TI) (st:St):List ResultVar->Option (List AV×Option Prop)
 | []=>some ([],none)
 | .tmp t::r=>match st.t t with
  | some (.always,x)=>(y5 T st r).bind λl=>bif pI x then some (x::l.1,l.2)else none
  | _=>none
 | .cell a t::r=>match st.t a with
  | some (.always,x)=>(Vd T st.m t x).bind λv=>(y5 T st r).bind λl=>bif pI v.1 then some (v.1::l.1,fP (nP st.m x) l.2)else none
  | _=>none
def resV:List AV->AV
 | [x]=>x
 | l => .tup l
def Jb:Nat->List Ob->List (Id×Ob)
 | _,[]=>[]
 | k,o::r=>(.b k,o)::Jb (k+1) r
theorem Oy:∀ (B:List Ob) (k j:Nat),ng (.b j) (Jb k B)=if k<=j then B[j - k]? else none
 | [],k,j=>by simp [Jb,ng]
 | o::r,k,j=>by simp only [Jb,ng];by_cases h:j=k;{subst h;simp [aU]};rw [tZ (by simpa using h),ads,Oy r (k+1) j];by_cases a:k<=j;{rw [aaU (by omega),aaU a,show j - k=(j - (k+1))+1 by omega,aeJ]};rw [Y0 (by omega),Y0 a]
theorem Ox:∀ (B:List Ob) (k a b:Nat),ng (.s a b) (Jb k B)=none
 | [],_,_,_=>rfl
 | o::r,k,a,b=>by simp only [Jb,ng];rw [tZ (by simp),ads,Ox r]
theorem FQ (B:List Ob):(λid=>ng id (Jb 0 B))=yL B:=by
 funext id;cases id with| b j=>rw [Oy];simp [yL]| s a b=>rw [Ox];rfl
def rvS (a:Act):ResultVar->Sem Value
 | .tmp t=>pure (a.tmps.getD t undef)
 | .cell b t=>do loadVar t (<- asAddr (a.tmps.getD b undef))
theorem Gu (hT:jf P T N) {e:Entry} {I:fK} {ρ:Pl} {a:Act} {w:World} (m:gJ T N e I ρ st a w):∀ (rs:List ResultVar) (l:List AV×Option Prop),y5 T st rs=some l->ay l.2 ->
 ∃ vs:List Value,(rs.mapM (rvS a)).run P w = .ok vs w/\vs.length=l.1.length /\ ∀ (i:Nat) (x:AV) (v:Value),l.1[i]? = some x->vs[i]? = some v->pI x=true/\dU T N I ρ x v
 | [],l,h,_=>by cases h;exact ⟨[],by simp,rfl,λi x v hi=>by simp at hi⟩
 | .tmp t::r,l,h,hc=>by simp only [y5]at h;split at h;{rename_i x hx;simp only [aaC]at h;obtain ⟨l',s,c⟩:=h;obtain ⟨hb,c⟩:=aB c;cases c;obtain ⟨vs,g1,o,q⟩:=Gu hT m r l' s hc;refine ⟨a.tmps.getD t undef::vs,?_,by simp [o],λi y v hi g=>?_⟩;{rw [List.mapM_cons,Sem.run_bind,rvS,Sem.run_pure,Result.andThen_ok,Sem.run_bind,g1,Result.andThen_ok,Sem.run_pure]};cases i with| zero=>simp at hi;subst hi;(have z:v=a.tmps.getD t undef:=by simpa using g.symm);subst z;exact ⟨hb,((m.tm t _ _ hx).1 trivial).rep1 (by rintro vs rfl;cases hb)⟩| succ i=>exact q i y v (by simpa using hi) (by simpa using g)};cases h
 | .cell b t::r,l,h,hc=>by simp only [y5]at h;split at h;{rename_i x hx;simp only [aaC]at h;obtain ⟨v,h0,l',s,c⟩:=h;obtain ⟨hb,c⟩:=aB c;cases c;rw [aI]at hc;obtain ⟨vs,g1,o,q⟩:=Gu hT m r l' s hc.2;have hr:=((m.tm b _ _ hx).1 trivial).rep1 (EH h0);obtain ⟨u,j,k2⟩:=JR (v:=v.1) (f:=v.2) hT m.wr hr h0 hc.1;(have d:∃ n,a.tmps.getD b undef = .pointer (some n):=by generalize a.tmps.getD b undef=y at j;cases y with| pointer p=>(cases p with| some n=>exact ⟨n,rfl⟩| none=>simp [Instr.loadAt,Instr.sureAddr,stuck]at j)| _=>simp [Instr.loadAt,Instr.sureAddr,stuck]at j);obtain ⟨n,k⟩:=d;rw [k]at j;simp only [Instr.loadAt,Instr.sureAddr,Sem.run_bind,Sem.run_pure,Result.andThen_ok]at j;refine ⟨u::vs,?_,by simp [o],λi y v' hi g=>?_⟩;{rw [List.mapM_cons,Sem.run_bind,rvS,k,Sem.run_bind,asAddr,Sem.run_pure,Result.andThen_ok,j,Result.andThen_ok,Sem.run_bind,g1,Result.andThen_ok,Sem.run_pure]};cases i with| zero=>simp at hi g;subst hi g;exact ⟨hb,k2.rep1 (λvs e=>by rw [e]at hb;cases hb)⟩| succ i=>exact q i y v' (by simpa using hi) (by simpa using g)};cases h
theorem Qg (fn:Func) (a:Act):results fn a.tmps=(do let vs <- fn.results.mapM (rvS a);pure (if h:vs.size=1 then vs[0]else .tuple vs)):=by
 unfold results;congr 1
theorem NG (hT:jf P T N) {e:Entry} {I:fK} {ρ:Pl} {a:Act} {w:World} (j:gJ T N e I ρ st a w) {fn:Func} {l:List AV×Option Prop} (h:y5 T st fn.results.toList=some l) (hc:ay l.2) :
 ∃ v,(results fn a.tmps).run P w = .ok v w/\gB T N I ρ (resV l.1) v:=by
 obtain ⟨vs,g,b,d⟩:=Gu hT j _ l h hc;have hm:(fn.results.mapM (rvS a)).run P w = .ok vs.toArray w:=by
  rw [<- Array.toArray_toList (xs:=fn.results),List.mapM_toArray];rw [Sem.run_map,g];rfl
 rw [Qg];simp only [Sem.run_bind,hm,Result.andThen_ok,Sem.run_pure];refine ⟨_,rfl,?_⟩
 match hl:l.1,vs,b,d with
 | [],[],_,_=>exact .tup _ rfl (λi c hi=>by simp at hi)
 | [x],[v],_,d=>exact .one (d 0 x v rfl rfl).2
 | x::y::r,v::u::vs,b,d =>
  have hsz:¬ ((v::u::vs).toArray.size=1):=by simp
  rw [dif_neg hsz];refine .tup _ (by simpa using b) (λi c hi=>?_);have f:i<(v::u::vs).length:=by rw [b];exact (List.getElem?_eq_some_iff.1 hi).1
  have:=(d i c _ hi (aaR f)).2;have e:(v::u::vs).toArray.getD i undef=(v::u::vs)[i]:=by
   simp only [Array.getD_eq_getD_getElem?,aeC,aaR f,adx]
  rw [e];exact this
 | [],v::vs,b,_=>simp at b
 | x::r,[],b,_=>simp at b
 | [x],v::u::vs,b,_=>simp at b
 | x::y::r,[v],b,_=>simp at b
def Fin (T:Nat->TI) (N nt nb:Nat) (rs:List ResultVar) (r:AV) (B':List Ob) (st:St):Prop :=
 ∃ ts,uY T N nt nb st (aN ts (Jb 0 B')) /\ ∃ l,y5 T (aN ts (Jb 0 B')) rs=some l/\ay l.2/\r=resV l.1
def acH (T:Nat->TI) (N nt nb:Nat) (rs:List ResultVar) (r:AV) (B':List Ob):Post:=λex st=>match ex with
 | .normal | .ret=>Fin T N nt nb rs r B' st
 | _=>False
def Fv (args:List AV) (B:List Ob):St:=⟨λk=>(args[k]?).map λx=>(.always,x),yL B⟩
theorem gJ.shut {st:St} {e:Entry} {I:fK} {ρ:Pl} {a:Act} {w:World} {D:Nat} {m:List Nat} (c:gJ T N e I ρ st a w) (z:a.defers=(D::m).map D8) :
 w.heap[D]? = some (.deferred (some []))/\gJ T N e I ρ st { a with defers:=m.map D8} (w.putObj D (.deferred none)):=by
 obtain ⟨n,h1,v,x⟩:=c.df.1;have l:n=D::m:=by
  rw [z]at v;exact ((List.map_inj_right (λa b t=>by simpa [D8]using t)).1 v).symm
 subst l;obtain ⟨hD,s⟩:=List.nodup_cons.1 h1;obtain ⟨k1,k2,k3⟩:=x D (by simp);have f:∀ b,b≠D->(w.putObj D (.deferred none)).heap[b]? = w.heap[b]? := λb hb=>World.putObj_heap_other hb
 have g:∀ (b o:Nat) (y:Value),w.cell? ⟨b,o,none⟩=some y->(w.putObj D (.deferred none)).cell? ⟨b,o,none⟩=some y:=λb o y h=>by
  have hb:b≠D:=by rintro rfl;simp [World.cell?,k1]at h
  simp only [World.cell?,f b hb];exact h
 refine ⟨k1,⟨⟨?_,?_,c.wr.dom,c.wr.inj,λb o y h=>g b o y (c.wr.imm b o y h),c.wr.gl⟩,c.tm,c.nt,?_,?_,c.eb⟩⟩
 ·intro id B hB;rcases c.wr.cells id B hB with h | ⟨p,cs,j,q,r,d4,d5,d⟩
  ·exact .inl h
  ·exact .inr ⟨p,cs,j,q,r,d4,by rw [f _ (k3 id p j)];exact d5,d⟩
 ·intro id es hB;obtain ⟨p,en,cl,j,q,r,d⟩:=c.wr.maps id es hB;exact ⟨p,en,cl,j,q,by rw [f _ (k3 id p j)];exact r,d⟩
 ·refine ⟨⟨m,s,rfl,λu k=>?_⟩,λh=>by have:=c.df.2 h;rw [z]at this;cases this⟩;obtain ⟨j1,j2,j3⟩:=x u (by simp [k]);have i:u≠D:=by rintro rfl;exact hD k
  exact ⟨by rw [f _ i];exact j1,j2,j3⟩
 ·refine ⟨c.ev.imm,c.ev.immN,c.ev.pl,c.ev.plN,λb hb i=>?_,by simpa using c.ev.size,c.ev.os,c.ev.output,c.ev.tape⟩;rw [f b (by omega)];exact c.ev.frame b hb i
theorem Lm {st:St} {e:Entry} {I:fK} {ρ:Pl} {fn:Func} {R:Ending->World->Prop} {a:Act} {w:World} (h:gJ T N e I ρ st a w)
 (l:∀ (g:Act) (w':World),g.tmps=a.tmps->gJ T N e I ρ st g w' -> ∃ v,(results fn a.tmps).run P w' = .ok v w'/\R (.returned v) w'):LeavesInM Fence.wide 0 P fn a.tmps R a.defers .returning w:=by
 obtain ⟨b,i,j,k⟩:=h.df.1;clear i k;have main:∀ (b:List Nat) (a1:Act) (w1:World),a1.tmps=a.tmps->a1.defers=b.map D8->gJ T N e I ρ st a1 w1->LeavesInM Fence.wide 0 P fn a.tmps R a1.defers .returning w1:=by intro b;induction b with| nil=>intro a1 w1 f d c;rw [d];exact l a1 w1 f c| cons D b m=>intro a1 w1 f d c;obtain ⟨n,o⟩:=c.shut d;rw [d];refine ⟨by simp,.inl ⟨D,_,rfl,run_takeDeferred n,?_⟩⟩;exact m { a1 with defers:=b.map D8} _ f rfl o
 exact main b a w rfl j h
theorem Y9 (hT:jf P T N) {f:FuncId} {fn:Func} {c:Code} {args:List AV} {B:List Ob} {r:AV} {B':List Ob} (hf:P.funcs[f]? = some fn) (hn:(fn.name == "runtime.NumGoroutine")=false) (hb:fn.body=some c) (a2:args.length<=fn.ntmps)
 (h:WP Rfn P T N fn.ntmps B.length c (acH T N fn.ntmps B.length fn.results.toList r B') (Fv args B)):AC P T N f args B r B':=by
 refine ⟨⟨fn,hf,hn,by rw [hb];rfl⟩,λI ρ w vs hl a6 hw=>?_⟩;have a1:∀ id p,ρ id=some p -> ∃ j,j<B.length/\id = .b j:=by intro id p hp;have:=hw.dom id p hp;cases id with| s a b=>exact absurd rfl this| b j=>refine ⟨j,?_,rfl⟩;(cases hj:B[j]? with| none=>simp [yL,hj]at this| some o=>exact (List.getElem?_eq_some_iff.1 hj).1)
 have hsz:vs.toArray.size<=fn.ntmps:=by simpa [hl]using a2
 have g:gJ T N ⟨I,ρ,w,fn.ntmps,B.length,false⟩ I ρ (Fv args B) { tmps:=vs.toArray++Array.replicate (fn.ntmps - vs.toArray.size) undef,defers:=[] } w:=by refine ⟨hw,λt d x ht=>?_,by simp [hl];omega,⟨Marks.nil,λ_=>rfl⟩,Ev.refl _ _ _,a1⟩;simp only [Fv,ade,adJ]at ht;obtain ⟨x0,z,rfl,rfl⟩:=ht;(have y:t<vs.length:=by rw [hl];exact (List.getElem?_eq_some_iff.1 z).1);refine ⟨λ_=>?_,λh=>absurd trivial h⟩;(have u:(vs.toArray++Array.replicate (fn.ntmps - vs.toArray.size) undef).getD t undef=vs[t]:=by simp [Array.getElem?_append,y]);simp only [u];exact a6 t x0 _ z (aaR y)
 refine (callsIn_wide (n:=0)).1 (callsIn_of_wp_marks hf hb trivial ?_);refine wpIn_mono (h ⟨I,ρ,w,fn.ntmps,B.length,false⟩ rfl rfl I ρ _ w g none ⟨rfl,rfl⟩ 0) ?_;rintro ex a' w' ⟨st',I',ρ',q,a4⟩;have key:Fin T N fn.ntmps B.length fn.results.toList r B' st'->LeavesInM Fence.wide 0 P fn a'.tmps (λe w' => ∃ v I' ρ',e = .returned v/\Ev I ρ w I' ρ' w'/\gB T N I' ρ' r v/\dY T N I' ρ' (yL B') w') a'.defers .returning w':=by rintro ⟨ts,k,l,z,h2,rfl⟩;obtain ⟨I2,a7,a5⟩:=k _ rfl rfl I' ρ' a' w' a4;refine Lm a5 (λa3 w3 e3 i=>?_);obtain ⟨v,g1,g2⟩:=NG hT i z h2;rw [e3]at g1;refine ⟨v,g1,v,I2,a7,rfl,i.ev,g2,?_⟩;have:=i.wr;rw [show (aN ts (Jb 0 B')).m=yL B' from FQ B']at this;exact this
 cases ex with
 | normal=>exact key q
 | ret=>exact key q
 | _=>exact q.elim
end
def Yt {α:Type} (x:Value) (K:Value->α):α:=match x with
 | .int k n=>K (.int k n)
 | .bool b=>K (.bool b)
 | x=>K x
def xX {α:Type} (i:Id) (K:Id->α):α:=match i with
 | .b j=>K (.b j)
 | .s a b=>K (.s a b)
def LH {α:Type} (v:AV) (K:AV->α):α:=match v with
 | .v x=>Yt x λx=>K (.v x)
 | .agg t n g=>K (.agg t n g)
 | .tup vs=>K (.tup vs)
 | .row e f n g=>K (.row e f n g)
 | .own id n i len cap=>xX id λid=>K (.own id n i len cap)
 | .arr id n i p lo len hi=>xX id λid=>K (.arr id n i p lo len hi)
 | .ptr id n i p=>xX id λid=>K (.ptr id n i p)
 | .rp t x=>K (.rp t x)
 | .clo f cs=>K (.clo f cs)
 | .mp id=>xX id λid=>K (.mp id)
def QM {α:Type} (c:Option Prop) (K:Option Prop->α):α:=match c with
 | none=>K none
 | some p=>K (some p)
def LJ {α:Type} (m:Id->Option Ob) (d:List (Id×Ob)) (K:(Id->Option Ob)->α):α:=match d with
 | []=>K m
 | [(i,o)]=>xX i λi=>K (uy m i o)
 | l=>K (iP m l)
def QL {α:Type} (t:Nat->Option (D×AV)) (d:Option Nat) (G:D) (v:AV) (K:(Nat->Option (D×AV))->α):α:=match d with
 | some k=>K (Gt t k (some (G,v)))
 | none=>K t
theorem Vr {α:Type} (x:Value) (K:Value->α):Yt x K=K x:=by cases x <;> rfl
theorem Ij {α:Type} (i:Id) (K:Id->α):xX i K=K i:=by cases i <;> rfl
theorem JY {α:Type} (v:AV) (K:AV->α):LH v K=K v:=by cases v <;> simp only [LH,Vr,Ij]
theorem J4 {α:Type} (c:Option Prop) (K:Option Prop->α):QM c K=K c:=by cases c <;> rfl
theorem J3 {α:Type} (m:Id->Option Ob) (d:List (Id×Ob)) (K:(Id->Option Ob)->α):LJ m d K=K (iP m d):=by
 unfold LJ;split
 ·rfl
 ·rename_i i o;cases i <;> rfl
 rfl
theorem JZ {α:Type} (t:Nat->Option (D×AV)) (d:Option Nat) (G:D) (v:AV) (K:(Nat->Option (D×AV))->α):QL t d G v K=K (match d with | some k=>Gt t k (some (G,v)) | none=>t):=by cases d <;> rfl
section
variable {R:Option Nat->Bool->Prop} {P:Program} {T:Nat->TI} {N nt nb:Nat} {post:Post} {st:St}
def Zc (T:Nat->TI) (AC:Rq) (nt:Nat) (ops:List Oper):List Oper->(Nat->Option (D×AV))->(Id->Option Ob)->List CG->Option Prop->Option RS
 | [],t,m,gs,c=>some ⟨⟨t,m⟩,gs,c⟩
 | o::r,t,m,gs,c=>match oK ops ⟨t,m⟩ o with
  | none=>none
  | some G=>match PL T AC ⟨t,m⟩ G gs o with
   | none=>none
   | some (⟨v,d,f,c'⟩,gs')=>bif Dl nt o.dst then LH v λv=>QM (fP c c') λc=>LJ m d λm=>QL t o.dst G v λt=>Zc T AC nt ops r t m gs' c else none
theorem LM {AC:Rq} {ops:List Oper}:∀ (l:List Oper) (t:Nat->Option (D×AV)) (m:Id->Option Ob) (gs:List CG) (c:Option Prop),Zc T AC nt ops l t m gs c=VK T AC nt ops l ⟨⟨t,m⟩,gs,c⟩
 | [],_,_,_,_=>rfl
 | o::r,t,m,gs,c=>by simp only [Zc,VK];cases oK ops ⟨t,m⟩ o with| none=>rfl| some G=>simp only [adT];(cases PL T AC ⟨t,m⟩ G gs o with| none=>rfl| some x=>obtain ⟨⟨v,d,f,b⟩,a⟩:=x;simp only [adT,JY,J4,J3,JZ];rw [LM r];congr 2;simp only [RS.mk.injEq,and_true];(cases o.dst <;> rfl))
theorem WP.reg (hT:jf P T N) (hE:wZ P T N) {id:Nat} {ops:Array Oper} {t t':Nat->Option (D×AV)} {m m':Id->Option Ob} {a:List CG} {c:Option Prop} (gs:List CG) (h:Zc T (AC P T N) nt ops.toList ops.toList t m gs none=some ⟨⟨t',m'⟩,a,c⟩) (hc:ay c) (hp:post .normal ⟨t',m'⟩):WP R P T N nt nb (.region id ops false) post ⟨t,m⟩:=by
 rw [LM]at h;exact WP.region hT hE gs h hc hp
end
structure Lt where
 dst:Option Nat
 rd:List Nat
 w:List Id
 f:List Id
def ZQ (x y:Lt):Bool:=BA x.dst y.rd&&BA y.dst x.rd&&IK x.dst y.dst && !xU x.w (y.f++y.w) && !xU y.w x.f
def direct (i:Nat) (o:Oper):Bool:=o.after.toList.any λe=>Region.binds .any e&&Nat.beq e.on i
theorem LW {ops:List Oper} {i f:Nat} {o:Oper} (h:direct i o=true):reach ops i (f+1) o=true:=by
 simp only [reach,adM];exact .inl h
def SI (ops:List Oper) (o:Oper) (y:Lt):List Lt->Nat->Bool
 | [],_=>true
 | x::r,i=>((((!x.w.isEmpty) || !y.w.isEmpty)&&direct i o)||ZQ x y||reach ops i 12 o)&&SI ops o y r (i+1)
def zl {α:Type}:List Id->(List Id->α)->α
 | [],K=>K []
 | i::r,K=>xX i λi=>zl r λr=>K (i::r)
theorem EI {α:Type}:∀ (l:List Id) (K:List Id->α),zl l K=K l
 | [],_=>rfl
 | i::r,K=>by simp only [zl,Ij,EI r]
def RQ {α β:Type}:List α->α->(List α->β)->β
 | [],x,K=>K [x]
 | y::r,x,K=>RQ r x λr=>K (y::r)
theorem Np {α β:Type}:∀ (l:List α) (x:α) (K:List α->β),RQ l x K=K (l++[x])
 | [],_,_=>rfl
 | y::r,x,K=>by rw [RQ,Np r];rfl
def ltOf (ops:List Oper) (x:Rec):Lt:=⟨x.o.dst,reads ops x.o,wr x.r,x.r.f⟩
section
variable {R:Option Nat->Bool->Prop} {P:Program} {T:Nat->TI} {N nt nb:Nat} {post:Post} {st:St}
def QU (T:Nat->TI) (AC:Rq) (nt:Nat) (ops:List Oper):List Oper->List Lt->(Nat->Option (D×AV))->(Id->Option Ob)->List CG->Option Prop->Option RS
 | [],_,t,m,gs,c=>some ⟨⟨t,m⟩,gs,c⟩
 | o::r,done,t,m,gs,c=>match oK ops ⟨t,m⟩ o with
  | none=>none
  | some G=>match PL T AC ⟨t,m⟩ G gs o with
   | none=>none
   | some (⟨v,d,f,c'⟩,gs')=>zl (d.map (·.1)) λw=>zl f λf =>
    bif Dl nt o.dst&&forward done.length o&&SI ops o ⟨o.dst,reads ops o,w,f⟩ done 0 then
     LH v λv=>QM (fP c c') λc=>LJ m d λm=>QL t o.dst G v λt=>RQ done ⟨o.dst,reads ops o,w,f⟩ λdone=>QU T AC nt ops r done t m gs' c else none
theorem Oq {ops:List Oper} {y:Rec}:∀ (l:List Rec) (i:Nat),SI ops y.o (ltOf ops y) (l.map (ltOf ops)) i=sZ ops y l i
 | [],_=>rfl
 | x::r,i=>by simp only [aeh,SI,sZ,Oq r];congr 1;cases hd:direct i y.o with| false=>rw [Bool.and_false,Bool.false_or];rfl| true=>rw [LW hd,Bool.or_true,Bool.or_true]
theorem J9 {AC:Rq} {ops:List Oper} {s':RS}:∀ (l:List Oper) (done:List Rec) (t:Nat->Option (D×AV)) (m:Id->Option Ob) (gs:List CG) (c:Option Prop),QU T AC nt ops l (done.map (ltOf ops)) t m gs c=some s' ->
 ∃ a,evT T AC nt ops l ⟨⟨t,m⟩,gs,c⟩=some (a,s')/\EC ops done a=true
 | [],done,t,m,gs,c,h=>by simp only [QU,abf]at h;subst h;exact ⟨[],rfl,rfl⟩
 | o::r,done,t,m,gs,c,h=>by simp only [QU]at h;cases j:oK ops ⟨t,m⟩ o with| none=>(rw [j]at h;cases h)| some G=>rw [j]at h;simp only at h;(cases hx:PL T AC ⟨t,m⟩ G gs o with| none=>(rw [hx]at h;cases h)| some x=>obtain ⟨⟨v,d,f,b⟩,g⟩:=x;rw [hx]at h;simp only [EI,JY,J4,J3,JZ,Np]at h;obtain ⟨hb,h⟩:=aB h;simp only [abe]at hb;have q:(⟨o.dst,reads ops o,d.map (·.1),f⟩:Lt)=ltOf ops ⟨o,G,gs,⟨v,d,f,b⟩⟩:=rfl;rw [q]at h hb;rw [<- List.map_singleton,<- aei]at h;obtain ⟨a,n,p⟩:=J9 r _ _ _ _ _ h;refine ⟨⟨o,G,gs,⟨v,d,f,b⟩⟩::a,?_,?_⟩;{simp only [evT,j,adT,hx,hb.1.1,adv];(have e:(St.after ⟨t,m⟩ o G ⟨v,d,f,b⟩)=⟨match o.dst with | some k=>Gt t k (some (G,v)) | none=>t,iP m d⟩:=by unfold St.after St.put;cases o.dst <;> rfl);(have i:evT T AC nt ops r ⟨St.after ⟨t,m⟩ o G ⟨v,d,f,b⟩,g,fP c b⟩=some (a,s'):=by rw [e];exact n);rw [i];rfl};simp only [EC,abe];refine ⟨⟨?_,?_⟩,p⟩;{have:=hb.1.2;rwa [adF]at this};rw [<- Oq];exact hb.2)
theorem WP.drw (hT:jf P T N) (hE:wZ P T N) (b:P.follows .mixedOrders=true) {id:Nat} {ops:Array Oper} {t t':Nat->Option (D×AV)} {m m':Id->Option Ob} {a:List CG} {c:Option Prop} (gs:List CG) (h:QU T (AC P T N) nt ops.toList ops.toList [] t m gs none=some ⟨⟨t',m'⟩,a,c⟩) (hc:ay c) (hp:post .normal ⟨t',m'⟩):WP R P T N nt nb (.region id ops true) post ⟨t,m⟩:=by
 obtain ⟨d,e,f⟩:=J9 (ops.toList) [] t m gs none h;refine WP.draws hT hE b gs (s':=⟨⟨t',m'⟩,a,c⟩) ?_ hc hp;simp only [evA,e,adT,f,adv]
end
def iD (az:Nat->Bool):Nat->Nat->Bool
 | _,0=>true
 | k,n+1=>az k&&iD az (k+1) n
theorem Dq (az:Nat->Bool):∀ (n k:Nat),iD az k (n+1)=(iD az k n&&az (k+n))
 | 0,k=>by simp [iD]
 | n+1,k=>by rw [iD,Dq az n (k+1),iD,Bool.and_assoc];congr 3;omega
theorem yj (az:Nat->Bool):∀ (n k:Nat),iD az k n=true -> ∀ i,i<n->az (k+i)=true
 | 0,_,_,i,hi=>by omega
 | n+1,k,h,i,hi=>by simp only [iD,abe]at h;cases i with| zero=>exact h.1| succ i=>have:=yj az n (k+1) h.2 i (by omega);rwa [show k+(i+1)=k+1+i by omega]
def SB (cs c:List Value):Prop:=cs.length=c.length /\ ∀ (n k:Nat) (a b:Value),cs[k]? = some a->c[k]? = some b->Instr.sameBits n b a=true
theorem SB.append {a b c d:List Value} (h:SB a b) (k:SB c d):SB (a++c) (b++d):=by
 refine ⟨by simp [h.1,k.1],λn i x y hx e=>?_⟩;rcases ado i a.length with hi | hi
 ·rw [ac6 hi]at hx;rw [ac6 (by rw [<- h.1];exact hi)]at e;exact h.2 n i x y hx e
 rw [adi hi]at hx;rw [adi (by rw [<- h.1];exact hi),<- h.1]at e;exact k.2 n _ x y hx e
theorem SB.flat {f g:Nat->List Value}:∀ (n:Nat),(∀ i,i<n->SB (f i) (g i))->SB ((List.range n).flatMap f) ((List.range n).flatMap g)
 | 0,_=>⟨rfl,λ_ _ _ _ h=>by simp at h⟩
 | n+1,h=>by simp only [ad8,adY,aey,List.flatMap_nil,adI];exact (SB.flat n (λi hi=>h i (by omega))).append (h n (by omega))
theorem SB.bits {cs a:List Value} (h:SB cs a) (n:Nat):Instr.sameBits (n+1) (.agg a.toArray) (.agg cs.toArray)=true:=by
 simp only [Instr.sameBits,aeb,abe,adh,adp];refine ⟨h.1.symm,?_⟩;rintro ⟨x,y⟩ hm;obtain ⟨i,hi⟩:=adw hm;rw [aem]at hi;exact h.2 n i y x hi.2 hi.1
section
variable {P:Program} {T:Nat->TI} {N:Nat}
theorem Df {g h:Nat->AV} (f:Nat):∀ (fs:List Nat) (i:Nat) (b:Bool),Dh (dI T f) fs i g h=some b -> ∃ az:Nat->Bool,(∀ (k u:Nat),fs[k]? = some u -> ∃ c,c<f+1/\dI T c u (g (i+k)) (h (i+k))=some (az (i+k)))/\b=iD az i fs.length
 | [],i,b,e=>by simp [Dh]at e;exact ⟨λ_=>true,λk u hk=>by simp at hk,by simp [iD,e]⟩
 | t::r,i,b,e=>by simp only [Dh,aaC,abf]at e;obtain ⟨a,l,d,m,rfl⟩:=e;obtain ⟨az,g1,j⟩:=Df f r (i+1) d m;refine ⟨λk=>if k=i then a else az k,λk u hk=>?_,?_⟩;{cases k with| zero=>simp at hk;subst hk;exact ⟨f,by omega,by simpa using l⟩| succ k=>obtain ⟨c,q,p⟩:=g1 k u (by simpa using hk);refine ⟨c,by omega,?_⟩;rw [show i+(k+1)=i+1+k by omega];simp only [show ¬ (i+1+k=i) by omega,adH];exact p};simp only [adS,iD,ad5];congr 1;rw [j];(have:∀ (n k:Nat),i<k->iD az k n=iD (λk=>if k=i then a else az k) k n:=by intro n;induction n with| zero=>intro k _;rfl| succ n o=>intro k hk;simp only [iD];rw [Y0 (by omega),o (k+1) (by omega)]);exact this _ _ (by omega)
theorem Di {g h:Nat->AV} {e:Nat} (f:Nat):∀ (n:Nat) (b:Bool),uU (dI T f e) n g h=some b -> ∃ az:Nat->Bool,(∀ k,k<n -> ∃ d,d<f+1/\dI T d e (g k) (h k)=some (az k))/\b=iD az 0 n
 | 0,b,e=>by simp [uU]at e;exact ⟨λ_=>true,λk hk=>by omega,by simp [iD,e]⟩
 | n+1,b,e=>by simp only [uU,aaC,abf]at e;obtain ⟨i,l,a,o,rfl⟩:=e;obtain ⟨az,g1,j⟩:=Di f n i l;refine ⟨λk=>if k=n then a else az k,λk hk=>?_,?_⟩;{by_cases c:k=n;{subst c;exact ⟨f,by omega,by simpa using o⟩};obtain ⟨d,r,q⟩:=g1 k (by omega);exact ⟨d,by omega,by simp only [c,adH];exact q⟩};rw [Dq,acY,aaU rfl];congr 1;rw [j];(have:∀ (m k:Nat),k+m<=n->iD az k m=iD (λk=>if k=n then a else az k) k m:=by intro m;induction m with| zero=>intro k _;rfl| succ m p=>intro k hk;simp only [iD];rw [Y0 (by omega),p (k+1) (by omega)]);exact this _ _ (by omega)
def F8 (P:Program) (T:Nat->TI):Prop := ∀ t,(T t).eqs=true->P.stoodInHeld t=false
theorem Gw {d:Nat} {xs ys:Array Value} {w:World} {az:Nat->Bool}:∀ (L:List Field) (k:Nat),(∀ (j:Nat) (c:Field),L[j]? = some c->c.name ≠ "_" /\ ∃ a b,(part c.type xs c.offset).run P w = .ok a w/\(part c.type ys c.offset).run P w = .ok b w /\
 (Op.equalIn d c.type a b).run P w = .ok (az (k+j)) w)->(Op.eqFields d xs ys L).run P w = .ok (iD az k L.length) w
 | [],k,_=>by simp [Op.eqFields,iD]
 | c::L,k,h=>by
  obtain ⟨f,a,b,g,i,l⟩:=h 0 c rfl;simp only [Op.eqFields,f,ne_eq,adB,ad5,Sem.run_bind,g,i,l,Result.andThen_ok,ad2,adS,iD];cases has:az k with
  | false=>simp
  | true =>
   simp only [Bool.not_true,adW,adH,adP]
   exact Gw L (k+1) (λj e m=>by
    have:=h (j+1) e (by simpa using m)
    rwa [show k+(j+1)=k+1+j by omega]at this)
theorem Jv {d e sz:Nat} {xs ys:Array Value} {w:World} {az:Nat->Bool}:∀ (n k:Nat),(∀ j,k<=j->j<k+n -> ∃ a b,(part e xs (j*sz)).run P w = .ok a w/\(part e ys (j*sz)).run P w = .ok b w/\(Op.equalIn d e a b).run P w = .ok (az j) w) ->
 (Op.eqItems d e sz xs ys (List.range' k n)).run P w = .ok (iD az k n) w
 | 0,k,_=>by simp [Op.eqItems,iD]
 | n+1,k,h=>by obtain ⟨a,b,c,f,g⟩:=h k (aa3 _) (by omega);simp only [List.range'_succ,Op.eqItems,Sem.run_bind,c,f,g,Result.andThen_ok,iD];cases has:az k with| false=>simp| true=>simp only [Bool.not_true,adW,adH,adP];exact Jv n (k+1) (λj i c=>h j (by omega) (by omega))
theorem P9 {d e sz:Nat} {xs ys:Array Value} {w:World} {az:Nat->Bool} (n:Nat) (h:∀ j,j<n -> ∃ a b,(part e xs (j*sz)).run P w = .ok a w/\(part e ys (j*sz)).run P w = .ok b w/\(Op.equalIn d e a b).run P w = .ok (az j) w) :
 (Op.eqItems d e sz xs ys (List.range n)).run P w = .ok (iD az 0 n) w:=by
 rw [List.range_eq_range'];exact Jv n 0 (λj _ c=>h j (by omega))
theorem Eo {fs:List Nat} {segs:Nat->List Value} {n:Nat} (hn:fs.length=n) (hl:∀ i u,fs[i]? = some u->(segs i).length=(T u).size) {k u:Nat} (hk:fs[k]? = some u) {o:Nat} (d:o<(T u).size):((List.range n).flatMap segs)[lU T fs k+o]? = (segs k)[o]? := by
 have b:k<n:=by rw [<- hn];exact (List.getElem?_eq_some_iff.1 hk).1
 have c:lU T fs k=iY (λi=>(segs i).length) k:=iw λi hi=>by(have a:i<fs.length:=by omega);simp only [aaR a,adU,adx];exact (hl i _ (aaR a)).symm
 rw [c];exact vT segs b (by rw [hl k u hk];exact d)
theorem aaq (hT:jf P T N) (hS:F8 P T):∀ (f t:Nat) (x y:AV) (cs ds:List Value) (b:Bool) (d:Nat) (w:World) (I:fK) (ρ:Pl),f<=d->Rep T N I ρ x cs->Rep T N I ρ y ds->dI T f t x y=some b ->
 (Op.equalIn d t (fF x cs) (fF y ds)).run P w = .ok b w/\(Op.eqGuardIn d t (fF x cs) (fF y ds)).run P w = .ok false w/\(b=true->SB cs ds):=by
 intro f
 induction f using Nat.strongRecOn with
 | _ f ih =>
  intro t x y cs ds b d w I ρ hd hx hy h;cases f with
  | zero=>simp [dI]at h
  | succ f =>
   obtain ⟨d,rfl⟩:∃ d',d=d'+1:=⟨d - 1,by omega⟩;unfold dI at h;split at h
   ·rename_i k j a k' c hk;obtain ⟨hb,h⟩:=aB h;cases h;have c4:j=k':=ad6 hb
    subst c4;cases hx;cases hy;have l:=kind_int hT hk w
    refine ⟨by simp [fF,Op.equalIn,l],by simp [fF,Op.eqGuardIn,l],λe=>⟨rfl,λn i u v l hv=>?_⟩⟩;cases i with
    | zero =>
     simp at l hv;subst l hv;have:a=c:=by simpa using e
     subst this;cases n <;> simp [Instr.sameBits]
    | succ i=>simp at l
   ·rename_i a c hk;cases h;cases hx;cases hy;obtain ⟨dd,z,_,a0⟩:=hT.runUnd (hT.lt (t:=t) (by rw [hk];simp));rw [hk]at a0;cases dd <;> simp only [kindOf,reduceCtorEq]at a0
    have l:=z w;refine ⟨by simp [fF,Op.equalIn,l],by simp [fF,Op.eqGuardIn,l],λe=>⟨rfl,λn i u v l hv=>?_⟩⟩;cases i with
    | zero =>
     simp at l hv;subst l hv;have:a=c:=by simpa using e
     subst this;cases n <;> simp [Instr.sameBits]
    | succ i=>simp at l
   ·rename_i a c hk;cases h;cases hx;cases hy;have l:=CX hT hk w
    refine ⟨by simp [fF,Op.equalIn,l],by simp [fF,Op.eqGuardIn,l],λe=>⟨rfl,λn i u v l hv=>?_⟩⟩;cases i with
    | zero =>
     simp at l hv;subst l hv;have e1:(c==a)=true:=by
      rw [beq_toListBytes]at e ⊢;simp at e ⊢;exact e.symm
     cases n <;> simp [Instr.sameBits,e1]
    | succ i=>simp at l
   ·rename_i fs t1 n1 g t2 n2 g' hk;have hb:=(aB h).1
    replace h:=(aB h).2;simp only [abe]at hb;obtain ⟨⟨b1,b2⟩,b3⟩:=hb;have e1:=abJ b1
    have e2:=abJ b2;subst e1 e2;obtain ⟨az,s1,s2⟩:=Df f fs 0 b h;cases hx with
    | array e segs q=>rw [hk]at q;cases q
    | struct a8 segs hk1 hn1 ht1 hr1 hf1 hl1 =>
    cases hy with
    | array e segs q=>rw [hk]at q;cases q
    | struct fs2 segs2 hk2 hn2 ht2 hr2 hf2 hl2 =>
    rw [hk]at hk1;cases hk1;rw [hk]at hk2;cases hk2;obtain ⟨dd,z,s,a0⟩:=hT.und _ ht1;rw [hk]at s;cases dd <;> simp only [kindOf,reduceCtorEq,TK.struct.injEq]at s
    rename_i flds;have a9:P.fieldsOf t2=flds:=by simp [Program.fieldsOf,z]
    have each:∀ (j:Nat) (p:Field),flds.toList[j]? = some p->p.name ≠ "_" /\ ∃ a c,(part p.type ((List.range n1).flatMap segs).toArray p.offset).run P w = .ok a w/\(part p.type ((List.range n2).flatMap segs2).toArray p.offset).run P w = .ok c w /\
     (Op.equalIn d p.type a c).run P w = .ok (az (0+j)) w/\(Op.eqGuardIn d p.type a c).run P w = .ok false w/\(az (0+j)=true->SB (segs j) (segs2 j)):=by
     intro j p r;have b0:flds[j]? = some p:=by rw [<- r,adn]
     have l:fs[j]? = some p.type:=by rw [<- s];simp [b0]
     obtain ⟨o1,o2⟩:=a0 flds rfl j p b0;rw [s]at o1;have a2:=(hT.struct t2 fs hk).1 _ (ac8 l)
     obtain ⟨f',k1,k2⟩:=s1 j p.type l;have r1:=kS hT a2 (hr1 j _ l) (hf1 j _ l) (hl1 j _ l) (cs:=((List.range n1).flatMap segs).toArray) (off:=p.offset) (w:=w) (λo ho=>by
      have:=Eo hn1 hl1 l ho;rw [o1];simpa using this)
     have r2:=kS hT a2 (hr2 j _ l) (hf2 j _ l) (hl2 j _ l) (cs:=((List.range n2).flatMap segs2).toArray) (off:=p.offset) (w:=w) (λo ho=>by
      have:=Eo hn2 hl2 l ho;rw [o1];simpa using this)
     rw [acY]at k2 ⊢;obtain ⟨m1,m2,m3⟩:=ih f' (by omega) p.type _ _ _ _ _ d w I ρ (by omega) (hr1 j _ l) (hr2 j _ l) k2;exact ⟨o2,_,_,r1,r2,m1,m2,m3⟩
    refine ⟨?_,?_,λe=>?_⟩
    ·simp only [fF];rw [run_equalIn_struct w d t2 _ _ (by rw [a9];exact z) (hS t2 b3),a9];have:=Gw (az:=az) flds.toList 0 (λj p r=>by
      obtain ⟨z1,a,c,z2,z3,z4,_⟩:=each j p r;exact ⟨z1,a,c,z2,z3,z4⟩)
     rw [this,s2];have:flds.toList.length=fs.length:=by rw [<- s];simp
     rw [this]
    ·simp only [fF,Op.eqGuardIn,Sem.run_bind,run_underlying z,Result.andThen_ok];rw [<- Array.forIn_toList];have m:∀ p∈flds.toList,p.name ≠ "_" /\ ∃ a c,(part p.type ((List.range n1).flatMap segs).toArray p.offset).run P w = .ok a w/\(part p.type ((List.range n2).flatMap segs2).toArray p.offset).run P w = .ok c w/\(Op.eqGuardIn d p.type a c).run P w = .ok false w:=λp hm=>by
      obtain ⟨j,r⟩:=adw hm;obtain ⟨z1,a,c,z2,z3,_,z5,_⟩:=each j p r;exact ⟨z1,a,c,z2,z3,z5⟩
     generalize flds.toList=L at m
     induction L with
     | nil=>simp
     | cons j L ihL =>
      obtain ⟨z1,a,c,z2,z3,z5⟩:=m j (by simp);simp only [List.forIn_cons,Sem.run_bind,z1,ne_eq,adB,ad5,z2,z3,z5,Result.andThen_ok,adW,adH,Sem.run_pure];exact ihL (λy hy=>m y (by simp [hy]))
    ·rw [<- hn1,<- hn2];refine SB.flat _ (λi hi=>?_);have c2:i<flds.toList.length:=by
      have:flds.toList.length=fs.length:=by rw [<- s];simp
      omega
     obtain ⟨_,_,_,_,_,_,_,z6⟩:=each i _ (aaR c2);refine z6 ?_;rw [s2]at e;exact yj az _ 0 e i hi
   ·rename_i k e t1 n1 g t2 n2 g' hk;have hb:=(aB h).1
    replace h:=(aB h).2;simp only [abe]at hb;obtain ⟨b1,b2⟩:=hb;have e1:=abJ b1
    have e2:=abJ b2;subst e1 e2;obtain ⟨az,s1,s2⟩:=Di f k b h;cases hx with
    | struct a8 segs q=>rw [hk]at q;cases q
    | array e1 segs hk1 ht1 hr1 hf1 hl1 =>
    cases hy with
    | struct a8 segs q=>rw [hk]at q;cases q
    | array e2 segs2 hk2 ht2 hr2 hf2 hl2 =>
    rw [hk]at hk1;cases hk1;rw [hk]at hk2;cases hk2;have he:=(hT.array t2 _ e hk).1
    obtain ⟨i,hi,c3,_⟩:=hT.info e he;have each:∀ j,j<k -> ∃ a c,(part e ((List.range k).flatMap segs).toArray (j*(T e).size)).run P w = .ok a w/\(part e ((List.range k).flatMap segs2).toArray (j*(T e).size)).run P w = .ok c w /\
     (Op.equalIn d e a c).run P w = .ok (az j) w/\(Op.eqGuardIn d e a c).run P w = .ok false w/\(az j=true->SB (segs j) (segs2 j)):=by
     intro j r;obtain ⟨f',k1,k2⟩:=s1 j r;have r1:=kS hT he (hr1 j r) (hf1 j r) (hl1 j r) (cs:=((List.range k).flatMap segs).toArray) (off:=j*(T e).size) (w:=w) (λo ho=>by
      have:=jA segs hl1 r ho;simpa using this)
     have r2:=kS hT he (hr2 j r) (hf2 j r) (hl2 j r) (cs:=((List.range k).flatMap segs2).toArray) (off:=j*(T e).size) (w:=w) (λo ho=>by
      have:=jA segs2 hl2 r ho;simpa using this)
     obtain ⟨m1,m2,m3⟩:=ih f' (by omega) e _ _ _ _ _ d w I ρ (by omega) (hr1 j r) (hr2 j r) k2;exact ⟨_,_,r1,r2,m1,m2,m3⟩
    refine ⟨?_,?_,λe'=>?_⟩
    ·simp only [fF];rw [run_equalIn_array w d _ _ (show P.underlying t2=some (.array k e)from by
      obtain ⟨dd,_,q2,q3⟩:=hT.runUnd ht1;rw [hk]at q3;cases dd <;> simp only [kindOf,reduceCtorEq,TK.array.injEq]at q3
      obtain ⟨rfl,rfl⟩:=q3;exact q2) hi,show P.cellsOf e=(T e).size from by simp [Program.cellsOf,hi,c3]]
     rw [P9 (az:=az) k (λj r=>by
      obtain ⟨a,c,z2,z3,z4,_⟩:=each j r;exact ⟨a,c,z2,z3,z4⟩),s2]
    ·simp only [fF,Op.eqGuardIn,Sem.run_bind,hT.arr hk,Result.andThen_ok,hT.runSize he];simp only [Std.Legacy.Range.forIn_eq_forIn_range',Std.Legacy.Range.size,aeP,Nat.add_one_sub_one,Nat.div_one];have m:∀ j∈List.range' 0 k,∃ a c,(part e ((List.range k).flatMap segs).toArray (j*(T e).size)).run P w = .ok a w/\(part e ((List.range k).flatMap segs2).toArray (j*(T e).size)).run P w = .ok c w/\(Op.eqGuardIn d e a c).run P w = .ok false w:=λj r=>by
      obtain ⟨a,c,z2,z3,_,z5,_⟩:=each j (by simpa using r);exact ⟨a,c,z2,z3,z5⟩
     generalize List.range' 0 k=L at m
     induction L with
     | nil=>simp
     | cons j L ihL =>
      obtain ⟨a,c,z2,z3,z5⟩:=m j (by simp);simp only [List.forIn_cons,Sem.run_bind,z2,z3,z5,Result.andThen_ok,adW,adH,Sem.run_pure];exact ihL (λy hy=>m y (by simp [hy]))
    ·refine SB.flat _ (λi hi=>?_);obtain ⟨_,_,_,_,_,_,z6⟩:=each i hi;refine z6 ?_;rw [s2]at e';have:=yj az _ 0 e' i hi
     rwa [acY]at this
   ·cases h
theorem ac7 (hT:jf P T N) (s:F8 P T):wZ P T N:=by
 rintro I ρ f t x y u v b w ⟨cs,hx,rfl⟩ ⟨g,z,rfl⟩ a h hf;obtain ⟨o,j,r⟩:=aaq hT s f t x y cs g b 10000 w I ρ (by omega) hx z h;have c:(∃ m k g1,x = .agg m k g1) /\ ∃ n l i,y = .agg n l i:=by cases f with| zero=>simp [dI]at h| succ f=>unfold dI at h;split at h;{rename_i hk;rw [hk]at a;cases a};{rename_i hk;rw [hk]at a;cases a};{rename_i hk;rw [hk]at a;cases a};{exact ⟨⟨_,_,_,rfl⟩,_,_,_,rfl⟩};{exact ⟨⟨_,_,_,rfl⟩,_,_,_,rfl⟩};(cases h)
 obtain ⟨⟨m,k,g1,rfl⟩,n,l,i,rfl⟩:=c;refine ⟨o,λop p q=>?_,λe=>?_⟩
 ·simp only [fF]at j ⊢;unfold eqGuard;have d:(Op.eqGuardIn Op.maxDepth t (.agg cs.toArray) (.agg g.toArray)).run P w = .ok false w:=j;cases op <;> simp [d] <;> split <;> simp
 simp only [fF];exact SB.bits (r e) 9999
end
inductive Tr where
 | e
 | n (k:Nat) (x:TI) (l r:Tr)
def dfl:TI:=⟨.other,0,0,true,false,.bad,[]⟩
def Tr.get:Tr->Nat->TI
 | .e,_=>dfl
 | .n k x l r,t=>bif Nat.beq t k then x else bif Nat.blt t k then l.get t else r.get t
def Tr.under:Tr->Nat->Bool
 | .e,_=>true
 | .n k _ l r,N=>Nat.blt k N&&l.under N&&r.under N
theorem Tr.out:∀ (x:Tr) {N t:Nat},x.under N=true->N<=t->x.get t=dfl
 | .e,_,_,_,_=>rfl
 | .n k y l r,N,t,h,ht=>by simp only [Tr.under,abe]at h;have hk:=kF h.1.1;(have a:t≠k:=by omega);(have b:Nat.blt t k=false:=by cases hb:Nat.blt t k with| false=>rfl| true=>have:=kF hb;omega);simp only [Tr.get,kJ a,b,ads];exact r.out h.2 ht
def Le:List Nat->List Nat->Bool
 | [],[]=>true
 | a::r,b::s=>Nat.beq a b&&Le r s
 | _,_=>false
theorem JJ:∀ {a b:List Nat},Le a b=true->a=b
 | [],[],_=>rfl
 | a::r,b::s,h=>by simp only [Le,abe]at h;rw [abJ h.1,JJ h.2]
 | [],_::_,h=>by cases h
 | _::_,[],h=>by cases h
def aa9:TK->TK->Bool
 | .int j,.int k=>decide (j=k)
 | .bool,.bool=>true
 | .str,.str=>true
 | .other,.other=>true
 | .slice a,.slice b=>Nat.beq a b
 | .struct a,.struct b=>Le a b
 | .array n a,.array m b=>Nat.beq n m&&Nat.beq a b
 | .ptr a,.ptr b=>Nat.beq a b
 | .map a c,.map b d=>Nat.beq a b&&Nat.beq c d
 | _,_=>false
theorem Zj {a b:TK} (h:aa9 a b=true):a=b:=by
 cases a <;> cases b <;> simp only [aa9,abe,ab9,reduceCtorEq,adW]at h <;>
  first | rfl | (rw [h]) | (rw [abJ h]) | (rw [JJ h]) | (rw [abJ h.1,abJ h.2])
def zeq:Value->Value->Bool
 | .bool a,.bool b=>a==b
 | .int j a,.int k b=>decide (j=k)&&decide (a=b)
 | .string a,.string b=>decide (a.data=b.data)
 | .slice none 0 0,.slice none 0 0=>true
 | .pointer none,.pointer none=>true
 | .map none,.map none=>true
 | .nilFunc,.nilFunc=>true
 | .nilIface,.nilIface=>true
 | _,_=>false
theorem VP {a b:Value} (h:zeq a b=true):a=b:=by
 unfold zeq at h;split at h
 ·rw [eq_of_beq h]
 ·simp only [abe,ab9]at h;rw [h.1,h.2]
 ·rename_i x y;have:=ad6 h;obtain ⟨x⟩:=x;obtain ⟨y⟩:=y;simp only at this;rw [this]
 all_goals first | rfl | cases h
section
variable (T:Nat->TI) (N:Nat)
def UG:Nat->AV->List Value->Bool
 | _,.v x,[y]=>qj x&&zeq x y
 | f+1,.agg t n get,cs=>Nat.blt t N&&(match (T t).kind with
  | .struct fs=>Nat.beq fs.length n&&Nat.beq cs.length (lU T fs n)&&(List.range n).all λi=>match fs[i]? with
   | some u=>fit T u (get i)&&Nat.beq ((cs.drop (lU T fs i)).take (T u).size).length (T u).size&&UG f (get i) ((cs.drop (lU T fs i)).take (T u).size)
   | none=>false
  | .array m e=>Nat.beq m n&&Nat.beq cs.length (n*(T e).size)&&(List.range n).all λi=>fit T e (get i)&&Nat.beq ((cs.drop (i*(T e).size)).take (T e).size).length (T e).size&&UG f (get i) ((cs.drop (i*(T e).size)).take (T e).size)
  | _=>false)
 | _,_,_=>false
variable {T N}
theorem O7 (cs:List Value) (off:Nat->Nat) (n:Nat) (segs:Nat->List Value) (h:∀ i,i<n->segs i=(cs.drop (off i)).take (segs i).length) (a:∀ i,i<n->off i=iY (λi=>(segs i).length) i) (hl:cs.length=iY (λi=>(segs i).length) n):(List.range n).flatMap segs=cs:=by
 have key:∀ k,k<=n->(List.range k).flatMap segs=cs.take (iY (λi=>(segs i).length) k):=by intro k;induction k with| zero=>intro _;simp [iY]| succ k b=>intro hk;rw [ad8,adY,b (by omega)];simp only [aey,List.flatMap_nil,adI,iY];rw [List.take_add,<- a k (by omega),<- h k (by omega)]
 rw [key n (aa3 _),<- hl,ad1]
theorem Xp:∀ (f:Nat) (x:AV) (cs:List Value),UG T N f x cs=true -> ∀ (I:fK) (ρ:Pl),Rep T N I ρ x cs:=by
 intro f;induction f with
 | zero=>intro x cs h I ρ;unfold UG at h;split at h;{simp only [abe]at h;rw [<- VP h.2];exact .v h.1};{rename_i e;cases e};cases h
 | succ f ih =>
  intro x cs h I ρ
  unfold UG at h
  split at h
  ·simp only [abe]at h;rw [<- VP h.2];exact .v h.1
  ·rename_i cs _ _ p r t n get he
   cases he
   simp only [abe]at h
   obtain ⟨ht,h⟩:=h
   have ht:=kF ht
   split at h
   ·rename_i fs hk
    simp only [abe,adp,adE]at h
    obtain ⟨⟨k,l⟩,o⟩:=h
    have hn:=abJ k
    have hl:=abJ l
    have each:∀ i u,fs[i]? = some u->fit T u (get i)=true/\((cs.drop (lU T fs i)).take (T u).size).length=(T u).size/\Rep T N I ρ (get i) ((cs.drop (lU T fs i)).take (T u).size):=by intro i u d;have:=o i (by rw [<- hn];exact (List.getElem?_eq_some_iff.1 d).1);rw [d]at this;simp only [abe]at this;exact ⟨this.1.1,abJ this.1.2,ih _ _ this.2 I ρ⟩
    let segs:Nat->List Value:=λi=>(cs.drop (lU T fs i)).take (((fs[i]?).map λu=>(T u).size).getD 0)
    have a:∀ i u,fs[i]? = some u->segs i=(cs.drop (lU T fs i)).take (T u).size:=λi u d=>by simp [segs,d]
    have hlen:∀ i,i<n->(segs i).length=((fs[i]?).map λu=>(T u).size).getD 0:=λi hi=>by(have c:i<fs.length:=by omega);rw [a i _ (aaR c),(each i _ (aaR c)).2.1];simp [c]
    have b:∀ i,i<=n->lU T fs i=iY (λi=>(segs i).length) i:=λi hi=>iw λj q=>(hlen j (by omega)).symm
    have g:=O7 cs (lU T fs) n segs (λi hi=>by
     have c:i<fs.length:=by omega
     conv=>lhs;rw [a i _ (aaR c)]
     rw [hlen i hi]
     simp [c]) (λi hi=>b i (by omega)) (by rw [hl];exact b n (aa3 _))
    rw [<- g]
    exact .struct fs segs hk hn ht (λi u d=>by rw [a i u d];exact (each i u d).2.2) (λi u d=>(each i u d).1) (λi u d=>by rw [a i u d];exact (each i u d).2.1)
   ·rename_i m e hk;simp only [abe,adp,adE]at h;obtain ⟨⟨k,l⟩,o⟩:=h;have hn:=abJ k;have hl:=abJ l;subst hn;(have each:∀ i,i<m->fit T e (get i)=true/\((cs.drop (i*(T e).size)).take (T e).size).length=(T e).size/\Rep T N I ρ (get i) ((cs.drop (i*(T e).size)).take (T e).size):=by intro i hi;have:=o i hi;exact ⟨this.1.1,abJ this.1.2,ih _ _ this.2 I ρ⟩);(have b:∀ i,i<=m->i*(T e).size=iY (λi=>((cs.drop (i*(T e).size)).take (T e).size).length) i:=λi hi=>by rw [<- pG];exact iw λj q=>(each j (by omega)).2.1.symm);have g:=O7 cs (λi=>i*(T e).size) m (λi=>(cs.drop (i*(T e).size)).take (T e).size) (λi hi=>by rw [(each i hi).2.1]) (λi hi=>b i (by omega)) (by rw [hl];exact b m (aa3 _));have:=Rep.array (I:=I) (ρ:=ρ) (t:=t) (get:=get) e (λi=>(cs.drop (i*(T e).size)).take (T e).size) hk ht (λi hi=>(each i hi).2.2) (λi hi=>(each i hi).1) (λi hi=>(each i hi).2.1);rw [g]at this;exact this
   cases h
  cases h
end
section
variable (P:Program) (T:Nat->TI) (N:Nat)
def QF:Value->Bool
 | .agg _=>true
 | _=>false
def Qn:AV->Value->Bool
 | .agg _ _ _,z=>QF z
 | _,z => !QF z
def Tn (fs:List Nat):List Field->Nat->Bool
 | [],_=>true
 | f::r,k=>Nat.beq f.offset (lU T fs k) && !(f.name == "_")&&Tn fs r (k+1)
def abW (t:Nat):Bool :=
 (
  match P.info? t with
  | some i=>Nat.beq i.size (T t).size&&Nat.beq i.bytes (T t).bytes&&(bif rV (T t).zero then (match i.zero with
   | some z=>fit T t (T t).zero&&UG T N 20 (T t).zero z.cells.toList&&Qn (T t).zero z
   | none=>false)else true)
  | none=>false) &&
 (
  match P.underlying t with
  | some d=>aa9 (kindOf d) (T t).kind&&(match d with
   | .struct flds=>Tn T (flds.toList.map (·.type)) flds.toList 0
   | _=>true)
  | none=>false) &&
 (bif (T t).kind.isAgg then Nat.blt 0 (T t).size else Nat.beq (T t).size 1) &&
 (
  match (T t).kind with
  | .struct fs=>fs.all (λu=>Nat.blt u N)&&Nat.beq (T t).size (lU T fs fs.length)
  | .array n e=>Nat.blt e N&&Nat.beq (T t).size (n*(T e).size)
  | .slice e=>Nat.blt e N
  | .map k e=>Nat.blt k N&&Nat.blt e N
  | _=>true) &&
 (bif (T t).eqs then !P.stoodInHeld t else true)
variable {P T N}
theorem UU {x:AV} {z:Value} (h:Qn x z=true):fF x z.cells.toList=z:=by
 have one:QF z=false->(∀ t n g,x ≠ .agg t n g)->fF x z.cells.toList=z:=by intro a hx;(have:z.cells.toList=[z]:=by cases z <;> first | rfl | cases a);rw [this];unfold fF;split;{exact absurd rfl (hx _ _ _)};rfl
 cases x with| agg t n g=>(cases z <;> first | (simp [fF,Value.cells];done) | cases h)| _=>exact one (by simpa [Qn]using h) (λ_ _ _ e=>by cases e)
theorem OQ {fs:List Nat}:∀ {l:List Field} {a k:Nat} {f:Field},Tn T fs l a=true->l[k]? = some f->f.offset=lU T fs (a+k)/\f.name ≠ "_"
 | [],_,_,_,_,h=>by simp at h
 | g::r,a,k,f,h,hk=>by simp only [Tn,abe,aeK,acj]at h;cases k with| zero=>simp at hk;subst hk;exact ⟨abJ h.1.1,h.1.2⟩| succ k=>have:=OQ h.2 (k:=k) (by simpa using hk);rwa [show a+(k+1)=a+1+k by omega]
theorem KC (b:∀ t,N<=t->T t=dfl) (h:(List.range N).all (abW P T N)=true):jf P T N/\F8 P T:=by
 have each:∀ t,t<N->abW P T N t=true:=λt ht=>List.all_eq_true.1 h t (List.mem_range.2 ht);have parts:∀ t,t<N->(∃ i,P.info? t=some i/\i.size=(T t).size/\i.bytes=(T t).bytes/\(rV (T t).zero=true -> ∃ z,i.zero=some z/\fit T t (T t).zero=true/\(∀ I ρ,Rep T N I ρ (T t).zero z.cells.toList)/\fF (T t).zero z.cells.toList=z)) /\
  (∃ d,P.underlying t=some d/\kindOf d=(T t).kind /\ ∀ flds,d = .struct flds -> ∀ k f,flds[k]? = some f->f.offset=lU T (flds.toList.map (·.type)) k/\f.name ≠ "_") /\
  ((T t).kind.isAgg=false->(T t).size=1)/\((T t).kind.isAgg=true->0<(T t).size) /\
  (match (T t).kind with| .struct fs=>fs.all (λu=>Nat.blt u N)&&Nat.beq (T t).size (lU T fs fs.length)| .array n e=>Nat.blt e N&&Nat.beq (T t).size (n*(T e).size)| .slice e=>Nat.blt e N| .map k e=>Nat.blt k N&&Nat.blt e N| _=>true)=true/\((T t).eqs=true->P.stoodInHeld t=false):=by
  intro t ht
  have hc:=each t ht
  simp only [abW,abe]at hc
  obtain ⟨⟨⟨⟨a,l⟩,g⟩,o⟩,m⟩:=hc
  refine ⟨?_,?_,?_,?_,o,?_⟩
  ·split at a;{rename_i i hi;simp only [abe]at a;refine ⟨i,hi,abJ a.1.1,abJ a.1.2,λp=>?_⟩;have c:=a.2;rw [p]at c;simp only [adv]at c;split at c;{rename_i z v;simp only [abe]at c;exact ⟨z,v,c.1.1,Xp 20 _ _ c.1.2,UU c.2⟩};cases c};cases a
  ·split at l;{rename_i d hd;simp only [abe]at l;refine ⟨d,hd,Zj l.1,?_⟩;rintro flds rfl k f hk;have:=OQ (T:=T) l.2 (k:=k) (f:=f) (by rw [adn];exact hk);rwa [acY]at this};cases l
  ·intro r;rw [r]at g;simp only [ads]at g;exact abJ g
  ·intro r;rw [r]at g;simp only [adv]at g;exact kF g
  intro he
  rw [he]at m
  simpa using m
 have q:∀ t,(T t).kind ≠ .other->t<N:=λt hk=>by rcases ado t N with j | j;{exact j};rw [b t j]at hk;exact absurd rfl hk
 refine ⟨⟨λt ht=>?_,λt ht=>(parts t ht).2.1,λt ht=>?_,λt ht=>(parts t ht).2.2.1,λt fs hk=>?_,λt n e hk=>?_,λt e hk=>?_,λt k e hk=>?_,λt ht=>(parts t ht).2.2.2.1,λt ht p=>?_,λt ht p i z hi s=>?_⟩,λt he=>?_⟩
 ·obtain ⟨i,a,l,g,_⟩:=(parts t ht).1;exact ⟨i,a,l,g⟩
 ·rw [b t (by omega)];exact ⟨rfl,rfl⟩
 ·have:=(parts t (q t (by rw [hk];simp))).2.2.2.2.1;rw [hk]at this;simp only [abe,adp]at this;exact ⟨λu y=>kF (this.1 u y),abJ this.2⟩
 ·have:=(parts t (q t (by rw [hk];simp))).2.2.2.2.1;rw [hk]at this;simp only [abe]at this;exact ⟨kF this.1,abJ this.2⟩
 ·have:=(parts t (q t (by rw [hk];simp))).2.2.2.2.1;rw [hk]at this;exact kF this
 ·have:=(parts t (q t (by rw [hk];simp))).2.2.2.2.1;rw [hk]at this;simp only [abe]at this;exact ⟨kF this.1,kF this.2⟩
 ·obtain ⟨i,a,_,_,o⟩:=(parts t ht).1;obtain ⟨z,m,c,w,_⟩:=o p;exact ⟨i,z,a,m,c,w⟩
 ·obtain ⟨i',a,_,_,o⟩:=(parts t ht).1;obtain ⟨z',m,_,_,x⟩:=o p;rw [hi]at a;cases a;rw [s]at m;cases m;exact x
 rcases ado t N with j | j;{exact (parts t j).2.2.2.2.2 he};rw [b t j]at he;cases he
end
section
variable {R:Option Nat->Bool->Prop} {P:Program} {T:Nat->TI} {N nt nb:Nat} {post:Post} {st:St}
theorem WP.rowlen {c:Code} (k:Nat) {e len:Nat} {f:Bool} {g:Nat->AV} (h:st.t k=some (.always,.row e f len g)) (hc:len<2 ^ 63->WP R P T N nt nb c post st):WP R P T N nt nb c post st:=λd i j I ρ a w b=>by
 have l:=((b.tm k _ _ h).1 trivial).rep1 (λ_=>by simp);have hl:len<2 ^ 63:=by rcases Rep.row_inv l with ⟨_,m,_⟩ | ⟨_,_,cap,_,_,n,o,_⟩;{omega};omega
 exact hc hl d i j I ρ a w b
theorem ah {m:Id->Option Ob} {F:Id->Nat} {x y:AV} (h:x=y):Conv m F T x y:=h▸CV.refl (λ_ => .inl rfl) x
theorem bZ {n:Int} (a : -9223372036854775808<=n) (b:n<9223372036854775808):IntKind.i64.wrap n=n:=by
 rw [IntKind.wrap_i64];omega
theorem WP.seqJ {x y:Code} {α:Type} (S:α->St) (Inv:α->Prop) (h:WP R P T N nt nb x (RI (λst' => ∃ a,Inv a/\uY T N nt nb st' (S a)) post) st) (k:∀ a,Inv a->WP R P T N nt nb y post (S a)):WP R P T N nt nb (.seq x y) post st:=by
 refine WP.seq (WP.mono h (λex st' q=>?_));cases ex with| normal=>obtain ⟨a,b,he⟩:=q;exact WP.ent he (k a b)| _=>exact q
theorem fin1 (hT:jf P T N) {t:Nat->Option (D×AV)} {m:Id->Option Ob} {k:Nat} {b r:Bool} (h:t k=some (.always,.v (.bool b))) (e:b=r):Fin T N nt 0 [.tmp k] (.bool r) [] ⟨t,m⟩:=by
 subst e;refine ⟨[(k,.bool b)],uY.mk hT [] trivial ⟨⟨rfl,_,h,ah rfl⟩,tt⟩ trivial rfl,([.bool b],none),?_,trivial,rfl⟩;simp [y5,aN,lW,pI]
end
section
variable {P:Program} {T:Nat->TI} {N:Nat}
theorem AC.args (hT:jf P T N) {f:FuncId} {args a:List AV} {B:List Ob} {r:AV} {B':List Ob} (h:AC P T N f a B r B') (hl:args.length=a.length) (hc:∀ (i:Nat) (x y:AV),args[i]? = some x->a[i]? = some y->Conv (λ_=>none) (λ_=>0) T x y):AC P T N f args B r B':=by
 refine ⟨h.1,λI ρ w vs d j hw=>h.2 I ρ w vs (by rw [d,hl]) (λi y v k n=>?_) hw⟩;have hi:i<args.length:=by rw [hl];exact (List.getElem?_eq_some_iff.1 k).1
 have hx:=aaR hi;have m:=j i _ v hx n;have z:=LD hT (sQ (N:=N) (T:=T) (I:=I) (w:=w) hw.imm hw.gl) (I':=I) (iK.refl _) (F:=λ_=>0) (λid B q cs u l=>by simp [iG]at l);refine m.conv (iK.refl _) ?_ (hc i _ y hx k);intro p x1 y1 cs o c hf b;rcases hf with rfl | hf
 ·exact ⟨b,λt=>rfl⟩
 split at hf;{obtain ⟨rfl,⟨id,cap,rfl⟩ | ⟨e,f,g,rfl,hp⟩⟩:=hf;{cases b;exact ⟨.own0,λt=>rfl⟩};cases b;exact ⟨.row0 (hT.lt_size hp),λt=>rfl⟩};{obtain ⟨B,f,s,hm,_⟩:=hf;cases hm};{obtain ⟨B,t,y',hm,_⟩:=hf;cases hm};exact hf.elim
end
section
variable {R:Option Nat->Bool->Prop} {P:Program} {T:Nat->TI} {N nt nb:Nat}
theorem aay {m:Id->Option Ob} {F:Id->Nat} {id:Id} {n i:Nat} {p:List Nat} {t:Nat} {y:AV} {B:zI} (hm:m id=some (.cells B)) (hn:B.n=n) (hF:i<F id) (ht:aY T B.ty p=some t) (a:fE ((B.get i).at p)=true) (b:xg ((B.get i).at p) y):Conv m F T (.ptr id n i p) (.rp t y) :=
 .inr ⟨B,t,y,hm,hn,rfl,hF,ht,a,b⟩
theorem bK {m:Id->Option Ob} {F:Id->Nat} {id:Id} {n i:Nat} {p:List Nat} {t:Nat} {y:AV} {B:zI} (hm:m id=some (.cells B)) (hn:B.n=n) (hF:i<F id) (ht:aY T B.ty p=some t) (b:(B.get i).at p=y) (a:fE y=true):Conv m F T (.ptr id n i p) (.rp t y) :=
 aay hm hn hF ht (by rw [b];exact a) (.of_eq b)
theorem gV {m:Id->Option Ob} {F:Id->Nat} {id:Id} {n i len:Nat} {cap:Option Nat} {e:Nat} {f:Bool} {g:Nat->AV} {B:zI} (hm:m id=some (.cells B)) (hn:B.n=n) (he:B.ty=e) (hf:f=true->OJ len cap=true) (hF:i+len<=F id) (h:∀ j,j<len->fE (B.get (i+j))=true/\xg (B.get (i+j)) (g j)):Conv m F T (.own id n i len cap) (.row e f len g):=by
 subst he;exact .inr ⟨B,f,g,hm,hn,rfl,hf,hF,h⟩
theorem dB {m:Id->Option Ob} {F:Id->Nat} {e:Nat} {f:Bool} {g:Nat->AV} (h:0<(T e).size):Conv m F T (.v (.slice none 0 0)) (.row e f 0 g) := .inr ⟨rfl,.inr ⟨e,f,g,rfl,h⟩⟩
theorem gI {m:Id->Option Ob} {F:Id->Nat} {id:Id} {cap:Option Nat}:Conv m F T (.v (.slice none 0 0)) (.own id 0 0 0 cap) := .inr ⟨rfl,.inl ⟨id,cap,rfl⟩⟩
theorem dw {t k:Nat} {l:List AV} {p:List Nat} {y:AV} (h:k<l.length):(bI t l).put (k::p) y=bI t (l.set k ((l.getD k .bad).put p y)):=by
 simp only [bI,AV.put,adA,AV.agg.injEq,true_and];funext j;by_cases a:j=k
 ·subst a;simp [h]
 rw [kJ a,ads];simp only [aaT];rw [List.getElem?_set_ne (Ne.symm a)]
def jw (t n:Nat) (k:IntKind) (l:List Int):AV := .agg t n (λi => .v (.int k (l.getD i 0)))
theorem zF {t n i:Nat} {k:IntKind} {l:List Int} {x:Int} (h:i<l.length):(jw t n k l).put [i] (.v (.int k x))=jw t n k (l.set i x):=by
 simp only [jw,AV.put,AV.agg.injEq,true_and];funext j;by_cases a:j=i
 ·subst a;simp [h]
 rw [kJ a,ads];simp only [aaT];rw [List.getElem?_set_ne (Ne.symm a)]
theorem zQ {t n:Nat} {g:Nat->AV} (h:∀ i,i<n->fE (g i)=true):fE (.agg t n g)=true:=by
 simp only [fE,adp,adE];exact h
theorem Hy {t n:Nat} {k:IntKind} {l:List Int}:fE (jw t n k l)=true:=zQ λi _=>rfl
theorem D5 {ids:List Id} {t n:Nat} {g:Nat->AV} (h:∀ i,i<n->fH ids (g i)=true):fH ids (.agg t n g)=true:=by
 simp only [fH,adp,adE];exact h
theorem WP.ownlen {post:Post} {st:St} {c:Code} (k:Nat) {id:Id} {n i len:Nat} {cap:Option Nat} {B:zI} (h:st.t k=some (.always,.own id n i len cap)) (hm:st.m id=some (.cells B)) (hn:B.n=n) (hc:len<2 ^ 63->WP R P T N nt nb c post st):WP R P T N nt nb c post st:=λe f g I ρ a w b=>by
 have j:=((b.tm k _ _ h).1 trivial).rep1 (λ_=>by simp);have hl:len<2 ^ 63:=by rcases Rep.own_inv j with ⟨_,_,_,o⟩ | ⟨q,d,_,hx⟩;{omega};obtain ⟨p,cs,c1,c2,c3,_⟩:=b.wr.cellsAt hm d;rw [d]at c1;cases c1;obtain ⟨c,_,g1,l,_⟩:=hx (by rw [c3,hn]);omega
 exact hc hl e f g I ρ a w b
def um (t:Nat) (k:IntKind) (l:List Int):Ob := .cells ⟨t,l.length,λi => .v (.int k (l.getD i 0)),0⟩
theorem aJ (hT:jf P T N) (F:List (Id×Nat)) {ts:List (Nat×AV)} {rs:List ResultVar} {r:AV} {B':List Ob} {st:St} {l:List AV} (hF:IC st F) (ht:Iz T st F ((Jb 0 B').map (·.1)) ts) (hm:IB T st F ((Jb 0 B').map (·.1)) (Jb 0 B')) (hb:(bs nb).all (gX ((Jb 0 B').map (·.1)))=true) (hl:y5 T (aN ts (Jb 0 B')) rs=some (l,none)) (a:r=resV l):Fin T N nt nb rs r B' st :=
 ⟨ts,uY.mk hT F hF ht hm hb,(l,none),hl,trivial,a⟩
end
section
variable {T:Nat->TI} {α β:Type} [DecidableEq α]
def Jg:List (α×β)->α->Option β
 | [],_=>none
 | (a,b)::r,k=>if a=k then some b else Jg r k
def Qm:List (α×β)->α->β->List (α×β)
 | [],k,v=>[(k,v)]
 | (a,b)::r,k,v=>if a=k then (k,v)::r else (a,b)::Qm r k v
def IG (a:α->AV) (ev:β->AV) (L:List (α×β)):List (AV×AV):=L.map λp=>(a p.1,ev p.2)
def L8 (T:Nat->TI) (b:Nat) (a:α->AV) (k:α) (L:List (α×β)):Prop := ∀ p∈L,dI T 40 b (a k) (a p.1)=some (decide (p.1=k))
theorem Bf {g:Nat} {c:α->AV} {ev:β->AV} {k:α}:∀ {L:List (α×β)} {i0:Nat},L8 T g c k L ->
 (∃ i b,mapIdx T g (c k) (IG c ev L) i0=some (some (i0+i))/\Jg L k=some b/\L[i]? = some (k,b) /\ ∀ v,Qm L k v=L.set i (k,v))\/(mapIdx T g (c k) (IG c ev L) i0=some none/\Jg L k=none /\ ∀ v,Qm L k v=L++[(k,v)])
 | [],i0,_ => .inr ⟨rfl,rfl,λ_=>rfl⟩
 | (a,b)::r,i0,h=>by have m:=h (a,b) (by simp);simp only [IG,aeh,mapIdx,m,Jg,Qm];by_cases e:a=k;{subst e;refine .inl ⟨0,b,?_,?_,rfl,λv=>?_⟩ <;> simp};simp only [e,decide_false,adH];rcases Bf (ev:=ev) (i0:=i0+1) (λp hp=>h p (adz _ hp))with ⟨i,j,g1,d,f,l⟩ | ⟨g1,d,f⟩;{refine .inl ⟨i+1,j,?_,d,by simpa using f,λv=>by simp [l v]⟩;rw [show i0+(i+1)=i0+1+i by omega];exact g1};exact .inr ⟨g1,d,λv=>by simp [f v]⟩
theorem OA {e f:Nat} {a:α->AV} {ev:β->AV} {k:α} {L:List (α×β)} (h:L8 T e a k L):Bc T e f (IG a ev L) (a k) true=some (match Jg L k with | some b => .tup [ev b,.bool true] | none => .tup [(T f).zero,.bool false]):=by
 rcases Bf (ev:=ev) (i0:=0) h with ⟨i,b,g1,c,d,g⟩ | ⟨g1,c,d⟩
 ·simp only [Bc,g1,c,adT,acY];simp [IG,d]
 simp only [Bc,g1,c,adT];simp
theorem QB {d:Nat} {a:α->AV} {ev:β->AV} {k:α} {L:List (α×β)} (h:L8 T d a k L) (v:β):Bd T d (IG a ev L) (a k) (ev v)=some (IG a ev (Qm L k v)):=by
 rcases Bf (ev:=ev) (i0:=0) h with ⟨i,b,g1,e,c,f⟩ | ⟨g1,e,c⟩
 ·simp only [Bd,g1,adT,acY,f];simp [IG,List.map_set]
 simp only [Bd,g1,adT,c];simp [IG]
def Kv (p:Nat->Bool):Nat->Bool
 | 0=>true
 | n+1=>Kv p n&&p n
theorem Ku {p:Nat->Bool}:∀ {n:Nat},Kv p n=true ↔ ∀ i,i<n->p i=true
 | 0=>by simp [Kv]
 | n+1=>by simp only [Kv,abe,Ku];constructor;{rintro ⟨a,b⟩ i hi;rcases ado i n with h | h;{exact a i h};(obtain rfl:i=n:=by omega);exact b};exact λh=>⟨λi hi=>h i (by omega),h n (by omega)⟩
end
section
variable {P:Program} {T:Nat->TI} {N:Nat}
theorem L9 {S:AV->AV->Prop}:∀ {l c:List AV},Y8 S l c->l.length=c.length /\ ∀ (i:Nat) (x y:AV),l[i]? = some x->c[i]? = some y->CV S x y
 | [],c,h=>by cases (show c=[]from h);exact ⟨rfl,λi x y hi=>by simp at hi⟩
 | x::r,c,h=>by obtain ⟨y,k,rfl,e,f⟩:=h;obtain ⟨g,j⟩:=L9 f;refine ⟨by simp [g],λi a b d hb=>?_⟩;cases i with| zero=>simp at d hb;subst d hb;exact e| succ i=>exact j i a b (by simpa using d) (by simpa using hb)
theorem AC.conv (hT:jf P T N) {f:FuncId} {args a:List AV} {B:List Ob} {r:AV} {B':List Ob} (h:AC P T N f a B r B') (hc:Y8 (Fz (λ_=>none) (λ_=>0) T) args a):AC P T N f args B r B' :=
 AC.args hT h (L9 hc).1 (L9 hc).2
end
theorem app1 {k:IntKind} {l:List Int} {g:Nat->AV} {x:Int} {z:AV} {n:Nat} (hn:n=l.length) (hg:∀ q,q<l.length->g q = .v (.int k (l.getD q 0))):∀ q,q<(l++[x]).length->pV n 1 g (wB [(0,.v (.int k x))] z) q = .v (.int k ((l++[x]).getD q 0)):=by
 subst hn;intro q a;rw [adl,List.length_singleton]at a;rcases ado q l.length with h | h
 ·rw [HY h,hg q h];simp only [aaT,ac6 h]
 (obtain rfl:q=l.length:=by omega);rw [wL (aa3 _) a];simp [wB]
theorem sO {T:Nat->TI} {m:Id->Option Ob} {F:Id->Nat} {keep:List Id} {id:Id} {B:zI} {t:Nat} {k:IntKind} {l:List Int} {X:Prop} (hm:m id=some (.cells B)) (ht:B.ty=t) (hn:B.n=l.length) (a:B.fz=0) (hF:F id=0) (hg:∀ q,q<l.length->B.get q = .v (.int k (l.getD q 0))) :
 okO keep (um t k l)/\((∃ b,m id=some b/\ObC m F T (F id) b (um t k l))\/X):=by
 obtain ⟨ty,n,get,fz⟩:=B;simp only at ht hn a hg;subst ht hn a;exact ⟨λ_ _=>rfl,.inl ⟨_,hm,_,_,rfl,aa3 _,by rw [hF];exact aa3 _,abM _,λq c=>ah (hg q c)⟩⟩
section
variable {T:Nat->TI} {α:Type}
def dn (t:Nat) (enc:α->AV) (d:α) (l:List α):Ob := .cells ⟨t,l.length,λi=>enc (l.getD i d),0⟩
theorem zG {enc:α->AV} {d:α} {l:List α} {g:Nat->AV} {x:α} {y z:AV} {n:Nat} (hn:n=l.length) (b:y=enc x) (hg:∀ q,q<l.length->g q=enc (l.getD q d)):∀ q,q<(l++[x]).length->pV n 1 g (wB [(0,y)] z) q=enc ((l++[x]).getD q d):=by
 subst hn b;intro q a;rw [adl,List.length_singleton]at a;rcases ado q l.length with h | h
 ·rw [HY h,hg q h];simp only [aaT,ac6 h]
 (obtain rfl:q=l.length:=by omega);rw [wL (aa3 _) a];simp [wB]
theorem dH {m:Id->Option Ob} {F:Id->Nat} {keep:List Id} {id:Id} {B:zI} {t:Nat} {enc:α->AV} {d:α} {l:List α} {X:Prop} (b:∀ a,fH keep (enc a)=true) (hm:m id=some (.cells B)) (ht:B.ty=t) (hn:B.n=l.length) (c:B.fz=0) (hF:F id=0) (hg:∀ q,q<l.length->B.get q=enc (l.getD q d)) :
 okO keep (dn t enc d l)/\((∃ e,m id=some e/\ObC m F T (F id) e (dn t enc d l))\/X):=by
 obtain ⟨ty,n,get,fz⟩:=B;simp only at ht hn c hg;subst ht hn c;exact ⟨λ_ _=>b _,.inl ⟨_,hm,_,_,rfl,aa3 _,by rw [hF];exact aa3 _,abM _,λq f=>ah (hg q f)⟩⟩
theorem WO {enc:α->AV} {d:α} {l:List α} {i:Nat} {y:AV} {x:α} (h:i<l.length) (b:y=enc x) (j:Nat):(bif Nat.beq j i then y else enc (l.getD j d))=enc ((l.set i x).getD j d):=by
 by_cases a:j=i
 ·subst a;simp [h,b]
 rw [kJ a,ads];simp only [aaT];rw [List.getElem?_set_ne (Ne.symm a)]
theorem jG {b:Id->Id} {t:Nat} {enc:α->AV} {d:α} {l:List α} (h:∀ a,ren b (enc a)=enc a):fG b (dn t enc d l)=dn t enc d l:=by
 simp only [dn,fG,Ob.cells.injEq,zI.mk.injEq,true_and,and_true];exact funext λi=>h _
theorem bU {t n:Nat} {g h:Nat->AV} (H:∀ i,g i=h i):AV.agg t n g = .agg t n h:=by rw [show g=h from funext H]
theorem Ei {m:Id->Option Ob} {F:Id->Nat} {e len:Nat} {f a:Bool} {g b:Nat->AV} (hf:a=true->f=true) (h:∀ j,j<len->g j=b j):Conv m F T (.row e f len g) (.row e a len b):=⟨a,b,rfl,hf,λj c=>ah (h j c)⟩
end
section
variable {P:Program} {T:Nat->TI} {N nt nb:Nat}
theorem Fin.ent {rs:List ResultVar} {r:AV} {B':List Ob} {st st':St} (h:uY T N nt nb st st') (k:Fin T N nt nb rs r B' st'):Fin T N nt nb rs r B' st:=by
 obtain ⟨ts,a,b⟩:=k;exact ⟨ts,h.trans a,b⟩
end
open Go.ChangeShapes Go.WideShapes Go.ChangeAt Go.RowKit
section
variable {P:Program} {T:Nat->TI} {N:Nat}
def Dec (P:Program) (T:Nat->TI) (N:Nat) (t:Nat) {α:Type} (enc:α->AV) (Q:α->Prop):Prop :=
 ∀ (H:Type) (b:TypeId×Value->H) (w:World) (fuel:Nat) (cs:List Value) (d:DataW H) (c:List MemPlace),DataW.trod b P w 0 (λ_=>true) true fuel t cs=some (d,c) -> ∃ a,Q a/\Rep T N (rQ w) iG (enc a) cs/\fit T t (enc a)=true
theorem Dec.map {t:Nat} {α β:Type} {enc:α->AV} {b:β->AV} {Q:α->Prop} {c:β->Prop} (h:Dec P T N t enc Q) (f:α->β) (he:∀ a,b (f a)=enc a) (k:∀ a,Q a->c (f a)):Dec P T N t b c:=λH e w fuel cs d m l=>by
 obtain ⟨a,g,i,j⟩:=h H e w fuel cs d m l;exact ⟨f a,k a g,by rw [he];exact i,by rw [he];exact j⟩
theorem Dec.int {t:Nat} {k:IntKind} (c:P.underlying t=some (.int k)) (hk:(T t).kind.isAgg=false):Dec P T N t (λn:Int => .v (.int k n)) (λn=>k.min<=n/\n<=k.max):=by
 intro H e w fuel cs d f a;cases fuel with| zero=>simp [DataW.trod]at a| succ fuel=>unfold DataW.trod at a;rw [c]at a;(match cs,a with| [.int k' n],a=>simp only [aeH]at a;obtain ⟨⟨rfl,b⟩,_⟩:=a;simp only [Lit.wf,abe,ab9]at b;exact ⟨n,b,.v rfl,by simp [fit,hk]⟩)
theorem Dec.bool {t:Nat} (c:P.underlying t=some .bool) (hk:(T t).kind.isAgg=false):Dec P T N t (λb:Bool => .v (.bool b)) (λ_=>True):=by
 intro H e w fuel cs d f a;cases fuel with| zero=>simp [DataW.trod]at a| succ fuel=>unfold DataW.trod at a;rw [c]at a;(match cs,a with| [.bool b],a=>exact ⟨b,trivial,.v rfl,by simp [fit,hk]⟩)
theorem mapM_at {α β:Type} {f:α->Option β}:∀ {l:List α} {r:List β},l.mapM f=some r->r.length=l.length /\ ∀ (i:Nat) (x:α),l[i]? = some x -> ∃ y,r[i]? = some y/\f x=some y
 | [],r,h=>by simp at h;subst h;exact ⟨rfl,λi x hi=>by simp at hi⟩
 | a::l,r,h=>by rw [List.mapM_cons]at h;simp only [Option.pure_def,Option.bind_eq_bind,aaC,abf]at h;obtain ⟨y,b,ys,c,rfl⟩:=h;obtain ⟨d,e⟩:=mapM_at c;refine ⟨by simp [d],λi x hi=>?_⟩;cases i with| zero=>simp at hi;subst hi;exact ⟨y,rfl,b⟩| succ i=>simpa using e i x (by simpa using hi)
theorem BD {w:World} {base:Nat} {a:Addr} {n:Nat} {cs:List Value} (h:w.cells? base a n=some cs):cs.length=n /\ ∀ i,i<n->w.cell? (a.add i)=cs[i]? := by
 unfold World.cells? at h;split at h
 ·obtain ⟨b,c⟩:=mapM_at h;refine ⟨by simpa using b,λi hi=>?_⟩;obtain ⟨y,d,e⟩:=c i i (by simp [hi]);rw [d];exact e
 ·cases h
theorem jf.cellsOf (hT:jf P T N) {t:Nat} (ht:t<N):P.cellsOf t=(T t).size:=by
 obtain ⟨i,a,b,_⟩:=hT.info t ht;simp [Program.cellsOf,a,b]
def abk {α:Type} (e:Nat) (enc:α->AV) (d:α) (f:Bool) (l:List α):AV := .row e f l.length (λi=>enc (l.getD i d))
def mX (P:Program) (T:Nat->TI) (N:Nat) (fs:List Nat) {β:Type} (a:β->List AV) (Q:β->Prop):Prop :=
 ∀ (H:Type) (c:TypeId×Value->H) (w:World) (fuel:Nat) (cs:Nat->List Value),(∀ (i u:Nat),fs[i]? = some u -> ∃ y:DataW H×List MemPlace,DataW.trod c P w 0 (λ_=>true) true fuel u (cs i)=some y) ->
  ∃ b,Q b/\(a b).length=fs.length /\ ∀ (i u:Nat),fs[i]? = some u->Rep T N (rQ w) iG ((a b).getD i .bad) (cs i)/\fit T u ((a b).getD i .bad)=true
theorem mX.nil:mX P T N [] (λ_:Unit=>[]) (λ_=>True):=λH a w fuel cs h=>⟨(),trivial,rfl,λi u hi=>by simp at hi⟩
theorem mX.cons {t:Nat} {fs:List Nat} {α β:Type} {enc:α->AV} {c:β->List AV} {Q:α->Prop} {R:β->Prop} (hd:Dec P T N t enc Q) (hl:mX P T N fs c R):mX P T N (t::fs) (λx:α×β=>enc x.1::c x.2) (λx=>Q x.1/\R x.2):=by
 intro H d w fuel cs h;obtain ⟨y,e⟩:=h 0 t rfl;obtain ⟨a,f,g,j⟩:=hd H d w fuel (cs 0) y.1 y.2 e;obtain ⟨b,k,l,m⟩:=hl H d w fuel (λi=>cs (i+1)) (λi u hi=>h (i+1) u (by simpa using hi));refine ⟨(a,b),⟨f,k⟩,by simp [l],λi u hi=>?_⟩;cases i with| zero=>simp at hi;subst hi;exact ⟨g,j⟩| succ i=>simpa using m i u (by simpa using hi)
theorem Dec.struct (hT:jf P T N) {t:Nat} {fs:List Nat} {β:Type} {e:β->List AV} {Q:β->Prop} (hk:(T t).kind = .struct fs) (hl:mX P T N fs e Q):Dec P T N t (λb=>bI t (e b)) Q:=by
 intro H eh w fuel cs d ps s;have m:=hT.lt (t:=t) (by rw [hk];simp);obtain ⟨dd,a1,l,a2⟩:=hT.und t m;rw [hk]at l;cases dd <;> simp only [kindOf,reduceCtorEq,TK.struct.injEq]at l
 rename_i flds;cases fuel with
 | zero=>simp [DataW.trod]at s
 | succ fuel =>
  unfold DataW.trod at s
  rw [a1]at s
  simp only [aeH,ade]at s
  obtain ⟨hlen,xs,a4,_⟩:=s
  obtain ⟨_,a0⟩:=mapM_at a4
  have hS:=hT.struct t fs hk
  have v:=hT.cellsOf m
  have a3:∀ (i u:Nat),fs[i]? = some u -> ∃ f,flds[i]? = some f/\f.type=u/\f.offset=lU T fs i:=by intro i u c;have b1:=c;rw [<- l]at c;simp only [ady,ade,adn]at c;obtain ⟨f,h,z⟩:=c;refine ⟨f,h,z,?_⟩;rw [<- l];exact (a2 flds rfl i f h).1
  have hex:∀ (i u:Nat),fs[i]? = some u -> ∃ y:DataW H×List MemPlace,DataW.trod eh P w 0 (λ_=>true) true fuel u ((cs.drop (lU T fs i)).take ((fs.getD i 0|>T).size))=some y:=by intro i u c;obtain ⟨f,h,z,h3⟩:=a3 i u c;obtain ⟨y,_,h4⟩:=a0 i f (by simpa using h);refine ⟨y,?_⟩;rw [z,h3,hT.cellsOf (hS.1 u (ac8 c))]at h4;rw [show fs.getD i 0=u by simp [c]];exact h4
  obtain ⟨b,q1,q2,q3⟩:=hl H eh w fuel (λi=>(cs.drop (lU T fs i)).take ((fs.getD i 0|>T).size)) hex
  refine ⟨b,q1,?_,by simp [fit,bI,hk,TK.isAgg]⟩
  have o:cs.length=lU T fs fs.length:=by rw [hlen,v,hS.2]
  have a:∀ k,k<fs.length->lU T fs (k+1)=lU T fs k+(T (fs.getD k 0)).size:=λk p=>by simp only [lU,iY];simp [p]
  have x:∀ j k,k+j=fs.length->lU T fs k<=cs.length:=by intro j;induction j with| zero=>intro k q;rw [o,<- q];exact aa3 _| succ j ih=>intro k q;have h:=ih (k+1) (by omega);rw [a k (by omega)]at h;omega
  have r:∀ k,k<=fs.length->lU T fs k<=cs.length/\(List.range k).flatMap (λi=>(cs.drop (lU T fs i)).take ((fs.getD i 0|>T).size))=cs.take (lU T fs k):=by intro k;induction k with| zero=>intro _;exact ⟨x fs.length 0 (by omega),by simp [lU,iY]⟩| succ k ih=>intro p;have h:=ih (by omega);refine ⟨x (fs.length - (k+1)) (k+1) (by omega),?_⟩;rw [ad8,adY,h.2,a k (by omega),List.take_add];simp
  have g:=(r fs.length (aa3 _)).2
  rw [<- o,ad1]at g
  have:=Rep.struct (T:=T) (N:=N) (I:=rQ w) (ρ:=iG) (t:=t) (n:=fs.length) (get:=λi=>(e b).getD i .bad) fs (λi=>(cs.drop (lU T fs i)).take ((fs.getD i 0|>T).size)) hk rfl m (λi u c=>(q3 i u c).1) (λi u c=>(q3 i u c).2) (λi u c=>by
   have hi:=(List.getElem?_eq_some_iff.1 c).1
   have h:=(r (i+1) (by omega)).1
   rw [a i hi]at h
   rw [adg,aeR,show fs.getD i 0=u by simp [c]]at *
   omega)
  rw [g]at this
  simpa [bI,q2]using this
end
end Go.Ab
