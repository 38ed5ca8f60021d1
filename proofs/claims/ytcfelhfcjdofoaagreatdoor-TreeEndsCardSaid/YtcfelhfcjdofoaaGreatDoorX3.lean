/- Part 4 of a proof of a statement about the given program: an abstract machine over the model, proved sound, and contracts of the functions that the statement reaches; the last part proves the statement, for every input, with no condition. -/
import Derived.Test.YtcfelhfcjdofoaaGreatDoorX2
import Derived.Laws.Cells
import Derived.Laws.CopyRow
import Derived.Maps.AppendAt
set_option autoImplicit false
set_option linter.unusedSimpArgs false
set_option linter.unusedVariables false
namespace Go.Ab
def kindOf:TypeDesc->TK
 | .int k => .int k
 | .bool => .bool
 | .string => .str
 | .slice e => .slice e
 | .array n e => .array n e
 | .pointer e => .ptr e
 | .map k v => .map k v
 | .struct fs => .struct (fs.toList.map (·.type))
 | _ => .other
def fF (x:AV) (cs:List Value):Value :=
 match x with
 | .agg _ _ _ => .agg cs.toArray
 | _=>cs.headD undef
structure jf (P:Program) (T:Nat->TI) (N:Nat):Prop where
 info:∀ t,t<N -> ∃ i,P.info? t=some i/\i.size=(T t).size/\i.bytes=(T t).bytes
 und:∀ t,t<N -> ∃ d,P.underlying t=some d/\kindOf d=(T t).kind /\
  ∀ flds,d = .struct flds -> ∀ k f,flds[k]? = some f->f.offset=lU T (flds.toList.map (·.type)) k/\f.name ≠ "_"
 out:∀ t,¬ t<N->(T t).kind = .other/\(T t).size=0
 one:∀ t,t<N->(T t).kind.isAgg=false->(T t).size=1
 struct:∀ t fs,(T t).kind = .struct fs->(∀ u∈fs,u<N)/\(T t).size=lU T fs fs.length
 array:∀ t n e,(T t).kind = .array n e->e<N/\(T t).size=n*(T e).size
 slice:∀ t e,(T t).kind = .slice e->e<N
 map:∀ t k e,(T t).kind = .map k e->k<N/\e<N
 pos:∀ t,t<N->(T t).kind.isAgg=true->0<(T t).size
 zero:∀ t,t<N->rV (T t).zero=true -> ∃ i z,P.info? t=some i/\i.zero=some z/\fit T t (T t).zero=true /\ ∀ I ρ,Rep T N I ρ (T t).zero z.cells.toList
 zpack:∀ t,t<N->rV (T t).zero=true -> ∀ i z,P.info? t=some i->i.zero=some z->fF (T t).zero z.cells.toList=z
section
variable {P:Program} {T:Nat->TI} {N:Nat}
theorem jf.lt (h:jf P T N) {t:Nat} (hk:(T t).kind ≠ .other):t<N:=by
 rcases ado t N with a | a
 ·exact a
 exact absurd (h.out t (by omega)).1 hk
theorem jf.lt_size (h:jf P T N) {t:Nat} (hk:0<(T t).size):t<N:=by
 rcases ado t N with a | a
 ·exact a
 have:=(h.out t (by omega)).2;omega
theorem jf.size_pos (h:jf P T N) {t:Nat} (ht:t<N):0<(T t).size:=by
 cases hk:(T t).kind.isAgg with| true=>exact h.pos t ht hk| false=>rw [h.one t ht hk];exact Nat.one_pos
theorem jf.runUnd (h:jf P T N) {t:Nat} (ht:t<N):∃ d,(∀ w,(underlying t).run P w = .ok d w)/\P.underlying t=some d/\kindOf d=(T t).kind:=by
 obtain ⟨d,hd,hk,_⟩:=h.und t ht;exact ⟨d,λw=>by simp [underlying,hd],hd,hk⟩
theorem jf.runSize (h:jf P T N) {t:Nat} (ht:t<N) (w:World):(sizeOf t).run P w = .ok (T t).size w:=by
 obtain ⟨i,hi,a,_⟩:=h.info t ht;simp [sizeOf,typeInfo,hi,a]
theorem jf.runAgg (h:jf P T N) {t:Nat} (ht:t<N) (w:World):(isAgg t).run P w = .ok (T t).kind.isAgg w:=by
 obtain ⟨d,hd,_,hk⟩:=h.runUnd ht;simp only [isAgg,Sem.run_bind,hd,Result.andThen_ok,<- hk];cases d <;> rfl
theorem jf.pathLt (h:jf P T N) (p:List Nat):∀ {t u:Nat},t<N->aY T t p=some u->u<N:=by
 induction p with| nil=>intro t u ht a;simp only [aY,abf]at a;omega| cons k p b=>intro t u ht a;simp only [aY]at a;split at a;{rename_i fs hk;cases hf:fs[k]? with| none=>(rw [hf]at a;cases a)| some v=>rw [hf]at a;exact b ((h.struct t fs hk).1 v (ac8 hf)) a};{rename_i n e hk;exact b (h.array t n e hk).1 a};(cases a)
theorem lV (p:List Nat):∀ {t u k:Nat},aY T t p=some u->aY T t (p++[k])=aY T u [k]:=by
 induction p with| nil=>intro t u k a;simp only [aY,abf]at a;subst a;rfl| cons j p b=>intro t u k a;simp only [aY,List.cons_append]at a ⊢;split at a;{rename_i fs hk;cases hf:fs[j]? with| none=>(rw [hf]at a;cases a)| some v=>rw [hf]at a;simpa [aY]using b a};{simpa [aY]using b a};(cases a)
theorem lZ (p:List Nat):∀ {t u k:Nat},aY T t p=some u->aG T t (p++[k])=aG T t p+aG T u [k]:=by
 induction p with| nil=>intro t u k a;simp only [aY,abf]at a;subst a;simp [aG]| cons j p b=>intro t u k a;simp only [aY]at a;simp only [List.cons_append];rw [aG,aG];split at a;{rename_i fs hk;cases hf:fs[j]? with| none=>(rw [hf]at a;cases a)| some v=>rw [hf]at a;simp only [hk,hf];rw [b (k:=k) a];omega};{rename_i n e hk;simp only [hk];rw [b (k:=k) a];omega};(cases a)
theorem nN (p:List Nat):∀ {t u k:Nat},aY T t p=some u->pathIn T t p->pathIn T u [k]->pathIn T t (p++[k]):=by
 induction p with| nil=>intro t u k a _ hk;simp only [aY,abf]at a;subst a;exact hk| cons j p c=>intro t u k a hi hk;simp only [aY]at a;simp only [List.cons_append];rw [pathIn]at hi ⊢;split at a;{rename_i fs b;simp only [b]at hi ⊢;cases hf:fs[j]? with| none=>(rw [hf]at a;cases a)| some v=>rw [hf]at a;simp only [hf]at hi ⊢;exact c a hi hk};{rename_i n e b;simp only [b]at hi ⊢;exact ⟨hi.1,c a hi.2 hk⟩};(cases a)
theorem F6 (p:List Nat) (k:Nat):∀ x:AV,x.at (p++[k])=(x.at p).at [k]:=by
 induction p with| nil=>intro x;simp [AV.at]| cons j p a=>(intro x;cases x <;> simp [AV.at,a,AV.bad])
end
section
variable (T:Nat->TI) (N:Nat)
def dU (I:fK) (ρ:Pl) (x:AV) (y:Value):Prop := ∃ cs,Rep T N I ρ x cs/\y=fF x cs
inductive gB (I:fK) (ρ:Pl):AV->Value->Prop
 | one {x:AV} {y:Value} (h:dU T N I ρ x y):gB I ρ x y
 | tup {vs:List AV} (ys:Array Value) (hl:ys.size=vs.length) (h:∀ i c,vs[i]? = some c->dU T N I ρ c (ys.getD i undef)):gB I ρ (.tup vs) (.tuple ys)
structure dY (I:fK) (ρ:Pl) (m:Id->Option Ob) (w:World):Prop where
 cells:∀ id B,m id=some (.cells B)->(ρ id=none/\B.n=0/\B.fz=0/\B.ty<N) \/ ∃ p cs,ρ id=some p/\p.ty=B.ty/\p.n=B.n/\B.ty<N/\w.heap[p.b]? = some (.cells cs B.ty (0,0))/\cs.size=p.lim/\B.n*(T B.ty).size<=p.lim /\
  (∀ i,i<B.n -> ∃ seg,Rep T N I ρ (B.get i) seg/\fit T B.ty (B.get i)=true/\seg.length=(T B.ty).size /\ ∀ o,o<(T B.ty).size->cs[i*(T B.ty).size+o]? = seg[o]?) /\
  (∀ j,I p.b j≠none->j<B.fz*(T B.ty).size)/\B.fz<=B.n
 maps:∀ id es,m id=some (.map es) -> ∃ p entries clock,ρ id=some p/\p.n=0/\w.heap[p.b]? = some (.map entries clock)/\entries.size=es.length/\(∀ j,I p.b j=none) /\
  ∀ (i:Nat) (k v:AV),es[i]? = some (k,v) -> ∃ e:MapEntry,entries[i]? = some e/\dU T N I ρ k e.key/\dU T N I ρ v e.val
 dom:∀ id p,ρ id=some p->m id≠none
 inj:∀ i j p q,ρ i=some p->ρ j=some q->p.b=q.b->i=j
 imm:∀ b o y,I b o=some y->w.cell? ⟨b,o,none⟩=some y
 gl:∀ (b o n:Nat),(T b).glb[o]? = some n->I b o=some (.int .u8 n)
structure Ev (I:fK) (ρ:Pl) (w:World) (I':fK) (ρ':Pl) (w':World):Prop where
 imm:iK I I'
 immN:∀ b o,I b o=none->I' b o≠none->(∃ id p,ρ id=some p/\p.b=b)\/w.heap.size<=b
 pl:iJ ρ ρ'
 plN:∀ id p',ρ' id=some p'->(∃ id0 p,ρ id0=some p/\p.b=p'.b)\/w.heap.size<=p'.b
 frame:∀ b,b<w.heap.size->(∀ id p,ρ id=some p->p.b≠b)->w'.heap[b]? = w.heap[b]?
 size:w.heap.size<=w'.heap.size
 os:w'.os=w.os
 output:w'.output=w.output
 tape:w'.tape=w.tape/\w.drawn<=w'.drawn
structure Entry where
 I:fK
 ρ:Pl
 w:World
 nt:Nat
 nb:Nat
 nd:Bool
def D8 (D:Nat):Deferred:={ target := .collected D,args := #[] }
def Marks (d:Nat) (ρ:Pl) (w:World) (c:List Deferred):Prop :=
 ∃ a:List Nat,a.Nodup/\c=a.map D8 /\ ∀ D∈a,w.heap[D]? = some (.deferred (some []))/\d<=D /\ ∀ id p,ρ id=some p->p.b≠D
structure gJ (e:Entry) (I:fK) (ρ:Pl) (st:St) (a:Act) (w:World):Prop where
 wr:dY T N I ρ st.m w
 tm:∀ t d x,st.t t=some (d,x)->(d.tr->gB T N I ρ x (a.tmps.getD t undef))/\(¬ d.tr->a.tmps.getD t undef=undef)
 nt:a.tmps.size=e.nt
 df:Marks e.w.heap.size ρ w a.defers/\(e.nd=true->a.defers=[])
 ev:Ev e.I e.ρ e.w I ρ w
 eb:∀ id p,e.ρ id=some p -> ∃ j,j<e.nb/\id = .b j
end
section
variable {P:Program} {T:Nat->TI} {N:Nat}
theorem Marks.nil {a:Nat} {ρ:Pl} {w:World}:Marks a ρ w []:=⟨[],List.nodup_nil,rfl,λD h=>by cases h⟩
theorem Marks.ev {g:Nat} {I I':fK} {ρ ρ':Pl} {w w':World} {c:List Deferred} (h:Marks g ρ w c) (a:Ev I ρ w I' ρ' w'):Marks g ρ' w' c:=by
 obtain ⟨i,k,l,m⟩:=h;refine ⟨i,k,l,λD n=>?_⟩;obtain ⟨e,o,f⟩:=m D n;have b:D<w.heap.size:=(Array.getElem?_eq_some_iff.1 e).1;refine ⟨by rw [a.frame D b (λid p hp=>f id p hp)];exact e,o,λid p hp=>?_⟩;rcases a.plN id p hp with ⟨id0,p0,d,j⟩ | d
 ·rw [<- j];exact f id0 p0 d
 omega
theorem Marks.sub {b:Nat} {ρ ρ':Pl} {w:World} {a:List Deferred} (h:Marks b ρ w a) (j:∀ id p,ρ' id=some p -> ∃ id0,ρ id0=some p):Marks b ρ' w a:=by
 obtain ⟨c,e,f,g⟩:=h;refine ⟨c,e,f,λD i=>?_⟩;obtain ⟨k,l,m⟩:=g D i;refine ⟨k,l,λid p hp=>?_⟩;obtain ⟨id0,d⟩:=j id p hp;exact m id0 p d
theorem Ev.refl (I:fK) (ρ:Pl) (w:World):Ev I ρ w I ρ w :=
 ⟨iK.refl _,λb o h a=>absurd h a,iJ.refl _,λid p' h => .inl ⟨id,p',h,rfl⟩,λ_ _ _=>rfl,aa3 _,rfl,rfl,⟨rfl,aa3 _⟩⟩
theorem Ev.trans {n l q:fK} {g i j:Pl} {w0 w1 w2:World} (h:Ev n g w0 l i w1) (k:Ev l i w1 q j w2):Ev n g w0 q j w2 where
 imm:=h.imm.trans k.imm
 immN:=λb o hn s=>by by_cases c:l b o=none;{rcases k.immN b o c s with ⟨id,p,hp,hb⟩ | hb;{rcases h.plN id p hp with ⟨id0,p0,a,d⟩ | a;{exact .inl ⟨id0,p0,a,d.trans hb⟩};exact .inr (hb▸a)};exact .inr (aej h.size hb)};exact h.immN b o hn c
 pl:=h.pl.trans k.pl
 plN:=λid p' hp=>by rcases k.plN id p' hp with ⟨m,p1,c,r⟩ | c;{rcases h.plN m p1 c with ⟨id0,p0,a,d⟩ | a;{exact .inl ⟨id0,p0,a,d.trans r⟩};exact .inr (r▸a)};exact .inr (aej h.size c)
 frame:=λb hb f=>by rw [k.frame b (adC hb h.size) (λid p hp e=>?_),h.frame b hb f];rcases h.plN id p hp with ⟨id0,p0,a,d⟩ | a;{exact f id0 p0 a (d.trans e)};omega
 size:=aej h.size k.size
 os:=k.os.trans h.os
 output:=k.output.trans h.output
 tape:=⟨k.tape.1.trans h.tape.1,aej h.tape.2 k.tape.2⟩
theorem dU.mono {I I':fK} {ρ ρ':Pl} {x:AV} {y:Value} (h:dU T N I ρ x y) (hI:iK I I') (hp:iJ ρ ρ'):dU T N I' ρ' x y:=by
 obtain ⟨cs,a,b⟩:=h;exact ⟨cs,a.mono hI hp,b⟩
theorem gB.mono {I I':fK} {ρ ρ':Pl} {x:AV} {y:Value} (h:gB T N I ρ x y) (hI:iK I I') (hp:iJ ρ ρ'):gB T N I' ρ' x y:=by
 cases h with| one h=>exact .one (h.mono hI hp)| tup ys hl h=>exact .tup ys hl (λi c hi=>(h i c hi).mono hI hp)
theorem dY.cellsAt {I:fK} {ρ:Pl} {m:Id->Option Ob} {w:World} (hw:dY T N I ρ m w) {id:Id} {B:zI} (hm:m id=some (.cells B)) {q:Place} (a:ρ id=some q) :
 ∃ p cs,ρ id=some p/\p.ty=B.ty/\p.n=B.n/\B.ty<N/\w.heap[p.b]? = some (.cells cs B.ty (0,0))/\cs.size=p.lim/\B.n*(T B.ty).size<=p.lim /\
 (∀ i,i<B.n -> ∃ seg,Rep T N I ρ (B.get i) seg/\fit T B.ty (B.get i)=true/\seg.length=(T B.ty).size /\ ∀ o,o<(T B.ty).size->cs[i*(T B.ty).size+o]? = seg[o]?) /\
 (∀ j,I p.b j≠none->j<B.fz*(T B.ty).size)/\B.fz<=B.n:=by
 rcases hw.cells id B hm with ⟨h,_⟩ | h
 ·rw [h]at a;cases a
 ·exact h
theorem gB.rep1 {I:fK} {ρ:Pl} {x:AV} {y:Value} (h:gB T N I ρ x y) (hx:∀ vs,x ≠ .tup vs):dU T N I ρ x y:=by
 cases h with| one h=>exact h| tup=>exact absurd rfl (hx _)
theorem AZ {I:fK} {ρ:Pl} {vs:List AV} {cs:List Value} (h:Rep T N I ρ (.tup vs) cs):False:=by cases h
theorem dU.v {I:fK} {ρ:Pl} {x y:Value} (h:dU T N I ρ (.v x) y):y=x/\qj x=true:=by
 obtain ⟨cs,a,b⟩:=h;cases a with| v h=>exact ⟨b,h⟩
theorem gB.v {I:fK} {ρ:Pl} {x y:Value} (h:gB T N I ρ (.v x) y):y=x/\qj x=true:=(h.rep1 (λ_=>by simp)).v
theorem DN {I:fK} {ρ:Pl} {x:Value} (h:qj x=true):dU T N I ρ (.v x) x:=⟨[x],.v h,rfl⟩
theorem fZ {I:fK} {ρ:Pl} {x:Value} (h:qj x=true):gB T N I ρ (.v x) x := .one (DN h)
theorem dU.cells {I:fK} {ρ:Pl} {x:AV} {y:Value} (h:dU T N I ρ x y):Rep T N I ρ x y.cells.toList:=by
 obtain ⟨cs,a,b⟩:=h;by_cases hx:∃ t n g,x = .agg t n g
 ·obtain ⟨t,n,g,rfl⟩:=hx;subst b;simpa [fF,Value.cells]using a
 obtain ⟨d,rfl,c⟩:=a.one (λt n g e=>hx ⟨t,n,g,e⟩);(have:fF x [d]=d:=by unfold fF;split;{exact absurd ⟨_,_,_,rfl⟩ hx};rfl);rw [this]at b;subst b;(have:y.cells = #[y]:=by cases y <;> first | rfl | simp [Value.oneCell']at c);rw [this];exact a
theorem Rep.pack {I:fK} {ρ:Pl} {x:AV} {cs:List Value} (h:Rep T N I ρ x cs):dU T N I ρ x (fF x cs):=⟨cs,h,rfl⟩
end
end Go.Ab
