/- Part 14 of a proof of a statement about the given program: an abstract machine over the model, proved sound, and contracts of the functions that the statement reaches; the last part proves the statement, for every input, with no condition. -/
import Derived.Test.YtcfelhfcjdofoaaGreatDoorX12
import Derived.ProofKit
import Derived.SizedLaws
import Derived.Lib.RowBridge
import Derived.RangeFuncSeq
import Derived.Shelf.Abstract
set_option autoImplicit false
set_option linter.unusedSimpArgs false
set_option linter.unusedVariables false
namespace Go.Ab
section
variable (P:Program) (T:Nat→TI) (N:Nat)
def IV:Value→Bool
 | .agg _=>true
 | _=>false
def Ik:AV→Value→Bool
 | .agg _ _ _,z=>IV z
 | _,z => !IV z
def LP (fs:List Nat):List Field→Nat→Bool
 | [],_=>true
 | f::r,k=>Nat.beq f.offset (lK T fs k) && !(f.name == "_")&&LP fs r (k+1)
def Rw (t:Nat):Bool :=
 (
  match P.info? t with
  | some i=>Nat.beq i.size (T t).size&&Nat.beq i.bytes (T t).bytes&&(bif oL (T t).zero then (match i.zero with
   | some z=>fit T t (T t).zero&&PE T N 20 (T t).zero z.cells.toList&&Ik (T t).zero z
   | none=>false)else true)
  | none=>false) &&
 (
  match P.underlying t with
  | some d=>Q8 (kindOf d) (T t).kind&&(match d with
   | .struct flds=>LP T (flds.toList.map (·.type)) flds.toList 0
   | _=>true)
  | none=>false) &&
 (bif (T t).kind.isAgg then Nat.blt 0 (T t).size else Nat.beq (T t).size 1) &&
 (
  match (T t).kind with
  | .struct fs=>fs.all (fun u=>Nat.blt u N)&&Nat.beq (T t).size (lK T fs fs.length)
  | .array n e=>Nat.blt e N&&Nat.beq (T t).size (n*(T e).size)
  | .slice e=>Nat.blt e N
  | .map k e=>Nat.blt k N&&Nat.blt e N
  | _=>true) &&
 (bif (T t).eqs then !P.stoodInHeld t else true)
variable {P T N}
theorem Ij {x:AV} {z:Value} (h:Ik x z=true):bZ x z.cells.toList=z:=by
 have one:IV z=false→(∀ t n g,x ≠ .agg t n g)→bZ x z.cells.toList=z:=by
  intro hz hx;have:z.cells.toList=[z]:=by cases z <;> first | rfl | cases hz
  rw [this];unfold bZ;split
  ·exact absurd rfl (hx _ _ _)
  ·rfl
 cases x with
 | agg t n g=>cases z <;> first | (simp [bZ,Value.cells];done) | cases h
 | _=>exact one (by simpa [Ik]using h) (fun _ _ _ e=>by cases e)
theorem EN {fs:List Nat}:∀ {l:List Field} {k0 k:Nat} {f:Field},LP T fs l k0=true→l[k]? = some f→f.offset=lK T fs (k0+k)∧f.name ≠ "_"
 | [],_,_,_,_,h=>by simp at h
 | g::r,k0,k,f,h,hk=>by
  simp only [LP,Bool.and_eq_true,Bool.not_eq_true',beq_eq_false_iff_ne]at h;cases k with
  | zero=>simp at hk;subst hk;exact ⟨Nat.eq_of_beq_eq_true h.1.1,h.1.2⟩
  | succ k =>
   have:=EN h.2 (k:=k) (by simpa using hk)
   rwa [show k0+(k+1)=k0+1+k by omega]
theorem zu (hout:∀ t,N≤t→T t=dfl) (h:(List.range N).all (Rw P T N)=true):TOK P T N∧y7 P T:=by
 have each:∀ t,t<N→Rw P T N t=true:=fun t ht=>List.all_eq_true.1 h t (List.mem_range.2 ht);have parts:∀ t,t<N→(∃ i,P.info? t=some i∧i.size=(T t).size∧i.bytes=(T t).bytes∧(oL (T t).zero=true → ∃ z,i.zero=some z∧fit T t (T t).zero=true∧(∀ I ρ,Rep T N I ρ (T t).zero z.cells.toList)∧bZ (T t).zero z.cells.toList=z)) ∧
  (∃ d,P.underlying t=some d∧kindOf d=(T t).kind ∧ ∀ flds,d = .struct flds → ∀ k f,flds[k]? = some f→f.offset=lK T (flds.toList.map (·.type)) k∧f.name ≠ "_") ∧
  ((T t).kind.isAgg=false→(T t).size=1)∧((T t).kind.isAgg=true→0<(T t).size) ∧
  (
   match (T t).kind with
   | .struct fs=>fs.all (fun u=>Nat.blt u N)&&Nat.beq (T t).size (lK T fs fs.length)
   | .array n e=>Nat.blt e N&&Nat.beq (T t).size (n*(T e).size)
   | .slice e=>Nat.blt e N
   | .map k e=>Nat.blt k N&&Nat.blt e N
   | _=>true)=true∧((T t).eqs=true→P.stoodInHeld t=false):=by
  intro t ht;have hc:=each t ht
  simp only [Rw,Bool.and_eq_true]at hc;obtain ⟨⟨⟨⟨h1,h2⟩,h3⟩,h4⟩,h5⟩:=hc;refine ⟨?_,?_,?_,?_,h4,?_⟩
  ·split at h1
   ·rename_i i hi;simp only [Bool.and_eq_true]at h1;refine ⟨i,hi,Nat.eq_of_beq_eq_true h1.1.1,Nat.eq_of_beq_eq_true h1.1.2,fun hz=>?_⟩;have h6:=h1.2
    rw [hz]at h6;simp only [cond_true]at h6;split at h6
    ·rename_i z hzz;simp only [Bool.and_eq_true]at h6;exact ⟨z,hzz,h6.1.1,KA 20 _ _ h6.1.2,Ij h6.2⟩
    ·cases h6
   ·cases h1
  ·split at h2
   ·rename_i d hd;simp only [Bool.and_eq_true]at h2;refine ⟨d,hd,NP h2.1,?_⟩;rintro flds rfl k f hk;have:=EN (T:=T) h2.2 (k:=k) (f:=f) (by rw [Array.getElem?_toList];exact hk)
    rwa [Nat.zero_add]at this
   ·cases h2
  ·intro ha;rw [ha]at h3;simp only [cond_false]at h3;exact Nat.eq_of_beq_eq_true h3
  ·intro ha;rw [ha]at h3;simp only [cond_true]at h3;exact iw h3
  ·intro he;rw [he]at h5;simpa using h5
 have kk:∀ t,(T t).kind ≠ .other→t<N:=fun t hk=>by
  rcases Nat.lt_or_ge t N with h' | h'
  ·exact h'
  ·rw [hout t h']at hk;exact absurd rfl hk
 refine ⟨⟨fun t ht=>?_,fun t ht=>(parts t ht).2.1,fun t ht=>?_,fun t ht=>(parts t ht).2.2.1,fun t fs hk=>?_,fun t n e hk=>?_,fun t e hk=>?_,fun t k e hk=>?_,fun t ht=>(parts t ht).2.2.2.1,fun t ht hz=>?_,fun t ht hz i z hi hiz=>?_⟩,fun t he=>?_⟩
 ·obtain ⟨i,h1,h2,h3,_⟩:=(parts t ht).1;exact ⟨i,h1,h2,h3⟩
 ·rw [hout t (by omega)];exact ⟨rfl,rfl⟩
 ·have:=(parts t (kk t (by rw [hk];simp))).2.2.2.2.1;rw [hk]at this;simp only [Bool.and_eq_true,List.all_eq_true]at this;exact ⟨fun u hu=>iw (this.1 u hu),Nat.eq_of_beq_eq_true this.2⟩
 ·have:=(parts t (kk t (by rw [hk];simp))).2.2.2.2.1;rw [hk]at this;simp only [Bool.and_eq_true]at this;exact ⟨iw this.1,Nat.eq_of_beq_eq_true this.2⟩
 ·have:=(parts t (kk t (by rw [hk];simp))).2.2.2.2.1;rw [hk]at this;exact iw this
 ·have:=(parts t (kk t (by rw [hk];simp))).2.2.2.2.1;rw [hk]at this;simp only [Bool.and_eq_true]at this;exact ⟨iw this.1,iw this.2⟩
 ·obtain ⟨i,h1,_,_,h4⟩:=(parts t ht).1;obtain ⟨z,h5,h6,h7,_⟩:=h4 hz;exact ⟨i,z,h1,h5,h6,h7⟩
 ·obtain ⟨i',h1,_,_,h4⟩:=(parts t ht).1;obtain ⟨z',h5,_,_,h8⟩:=h4 hz;rw [hi]at h1;cases h1;rw [hiz]at h5;cases h5;exact h8
 ·rcases Nat.lt_or_ge t N with h' | h'
  ·exact (parts t h').2.2.2.2.2 he
  ·rw [hout t h']at he;cases he
end
section
variable {R:Option Nat→Bool→Prop} {P:Program} {T:Nat→TI} {N nt nb:Nat} {post:Post} {st:St}
theorem WP.rowlen {c:Code} (k:Nat) {e len:Nat} {f:Bool} {g:Nat→AV} (h:st.t k=some (.always,.row e f len g)) (hc:len<2 ^ 63→WP R P T N nt nb c post st):WP R P T N nt nb c post st:=fun en h1 h2 I ρ a w hs=>by
 have hr:=((hs.tm k _ _ h).1 trivial).rep1 (fun _=>by simp);have hl:len<2 ^ 63:=by
  rcases Rep.row_inv hr with ⟨_,h0,_⟩ | ⟨_,_,cap,_,_,h3,h4,_⟩
  ·omega
  ·omega
 exact hc hl en h1 h2 I ρ a w hs
theorem ah {m:Id→Option Ob} {F:Id→Nat} {x y:AV} (h:x=y):Conv m F T x y:=h▸CV.refl (fun _ => .inl rfl) x
theorem cu {n:Int} (h1 : -9223372036854775808≤n) (h2:n<9223372036854775808):IntKind.i64.wrap n=n:=by
 rw [IntKind.wrap_i64];omega
theorem WP.seqJ {x y:Code} {α:Type} (S:α→St) (Inv:α→Prop) (h:WP R P T N nt nb x (J7 (fun st' => ∃ a,Inv a∧Ent T N nt nb st' (S a)) post) st) (k:∀ a,Inv a→WP R P T N nt nb y post (S a)):WP R P T N nt nb (.seq x y) post st:=by
 refine WP.seq (WP.mono h (fun ex st' q=>?_));cases ex with
 | normal =>
  obtain ⟨a,ha,he⟩:=q;exact WP.ent he (k a ha)
 | _=>exact q
theorem fin1 (hT:TOK P T N) {t:Nat→Option (D×AV)} {m:Id→Option Ob} {k:Nat} {b r:Bool} (h:t k=some (.always,.v (.bool b))) (e:b=r):Fin T N nt 0 [.tmp k] (.bool r) [] ⟨t,m⟩:=by
 subst e;refine ⟨[(k,.bool b)],Ent.mk hT [] trivial ⟨⟨rfl,_,h,ah rfl⟩,tt⟩ trivial rfl,([.bool b],none),?_,trivial,rfl⟩;simp [BG,aP,kF,mJ]
end
section
variable {P:Program} {T:Nat→TI} {N:Nat}
theorem AC.args (hT:TOK P T N) {f:FuncId} {args args':List AV} {B:List Ob} {r:AV} {B':List Ob} (h:AC P T N f args' B r B') (hl:args.length=args'.length) (hc:∀ (i:Nat) (x y:AV),args[i]? = some x→args'[i]? = some y→Conv (fun _=>none) (fun _=>0) T x y):AC P T N f args B r B':=by
 refine ⟨h.1,fun I ρ w vs hvl hvs hw=>h.2 I ρ w vs (by rw [hvl,hl]) (fun i y v hy hv=>?_) hw⟩;have hi:i<args.length:=by rw [hl];exact (List.getElem?_eq_some_iff.1 hy).1
 have hx:=List.getElem?_eq_getElem hi;have hr:=hvs i _ v hx hv
 have hS:=CX hT (mV (N:=N) (T:=T) (I:=I) (w:=w) hw.imm hw.gl) (I':=I) (iQ.refl _) (F:=fun _=>0) (fun id B q cs h1 h2=>by simp [iI]at h2);refine hr.conv (iQ.refl _) ?_ (hc i _ y hx hy);intro ρ1 x1 y1 cs hρ hleaf hf hrep;rcases hf with rfl | hf
 ·exact ⟨hrep,fun t=>rfl⟩
 ·split at hf
  ·obtain ⟨rfl,⟨id,cap,rfl⟩ | ⟨e,f,g,rfl,hp⟩⟩:=hf
   ·cases hrep;exact ⟨.own0,fun t=>rfl⟩
   ·cases hrep;exact ⟨.row0 (hT.lt_size hp),fun t=>rfl⟩
  ·obtain ⟨B,f,g',hm,_⟩:=hf;cases hm
  ·obtain ⟨B,t,y',hm,_⟩:=hf;cases hm
  ·exact hf.elim
end
section
variable {R:Option Nat→Bool→Prop} {P:Program} {T:Nat→TI} {N nt nb:Nat}
theorem Ph {m:Id→Option Ob} {F:Id→Nat} {id:Id} {n i:Nat} {p:List Nat} {t:Nat} {y:AV} {B:Blk} (hm:m id=some (.cells B)) (hn:B.n=n) (hF:i<F id) (ht:aJ T B.ty p=some t) (hno:dw ((B.get i).at p)=true) (hy:AEq ((B.get i).at p) y):Conv m F T (.ptr id n i p) (.rp t y) :=
 .inr ⟨B,t,y,hm,hn,rfl,hF,ht,hno,hy⟩
theorem eY {m:Id→Option Ob} {F:Id→Nat} {id:Id} {n i:Nat} {p:List Nat} {t:Nat} {y:AV} {B:Blk} (hm:m id=some (.cells B)) (hn:B.n=n) (hF:i<F id) (ht:aJ T B.ty p=some t) (hy:(B.get i).at p=y) (hno:dw y=true):Conv m F T (.ptr id n i p) (.rp t y) :=
 Ph hm hn hF ht (by rw [hy];exact hno) (.of_eq hy)
theorem jm {m:Id→Option Ob} {F:Id→Nat} {id:Id} {n i len:Nat} {cap:Option Nat} {e:Nat} {f:Bool} {g:Nat→AV} {B:Blk} (hm:m id=some (.cells B)) (hn:B.n=n) (he:B.ty=e) (hf:f=true→I5 len cap=true) (hF:i+len≤F id) (h:∀ j,j<len→dw (B.get (i+j))=true∧AEq (B.get (i+j)) (g j)):Conv m F T (.own id n i len cap) (.row e f len g):=by
 subst he;exact .inr ⟨B,f,g,hm,hn,rfl,hf,hF,h⟩
theorem dX {m:Id→Option Ob} {F:Id→Nat} {e:Nat} {f:Bool} {g:Nat→AV} (h:0<(T e).size):Conv m F T (.v (.slice none 0 0)) (.row e f 0 g) := .inr ⟨rfl,.inr ⟨e,f,g,rfl,h⟩⟩
theorem jc {m:Id→Option Ob} {F:Id→Nat} {id:Id} {cap:Option Nat}:Conv m F T (.v (.slice none 0 0)) (.own id 0 0 0 cap) := .inr ⟨rfl,.inl ⟨id,cap,rfl⟩⟩
theorem aT {t k:Nat} {l:List AV} {p:List Nat} {y:AV} (h:k<l.length):(bG t l).put (k::p) y=bG t (l.set k ((l.getD k .bad).put p y)):=by
 simp only [bG,AV.put,List.length_set,AV.agg.injEq,true_and];funext j;by_cases hj:j=k
 ·subst hj;simp [h]
 ·rw [gQ hj,cond_false];simp only [List.getD_eq_getElem?_getD];rw [List.getElem?_set_ne (Ne.symm hj)]
def mQ (t n:Nat) (k:IntKind) (l:List Int):AV := .agg t n (fun i => .v (.int k (l.getD i 0)))
theorem qH {t n i:Nat} {k:IntKind} {l:List Int} {x:Int} (h:i<l.length):(mQ t n k l).put [i] (.v (.int k x))=mQ t n k (l.set i x):=by
 simp only [mQ,AV.put,AV.agg.injEq,true_and];funext j;by_cases hj:j=i
 ·subst hj;simp [h]
 ·rw [gQ hj,cond_false];simp only [List.getD_eq_getElem?_getD];rw [List.getElem?_set_ne (Ne.symm hj)]
theorem qw {t n:Nat} {g:Nat→AV} (h:∀ i,i<n→dw (g i)=true):dw (.agg t n g)=true:=by
 simp only [dw,List.all_eq_true,List.mem_range];exact h
theorem FZ {t n:Nat} {k:IntKind} {l:List Int}:dw (mQ t n k l)=true:=qw fun i _=>rfl
theorem Iw {ids:List Id} {t n:Nat} {g:Nat→AV} (h:∀ i,i<n→dM ids (g i)=true):dM ids (.agg t n g)=true:=by
 simp only [dM,List.all_eq_true,List.mem_range];exact h
theorem WP.ownlen {post:Post} {st:St} {c:Code} (k:Nat) {id:Id} {n i len:Nat} {cap:Option Nat} {B:Blk} (h:st.t k=some (.always,.own id n i len cap)) (hm:st.m id=some (.cells B)) (hn:B.n=n) (hc:len<2 ^ 63→WP R P T N nt nb c post st):WP R P T N nt nb c post st:=fun en h1 h2 I ρ a w hs=>by
 have hr:=((hs.tm k _ _ h).1 trivial).rep1 (fun _=>by simp);have hl:len<2 ^ 63:=by
  rcases Rep.own_inv hr with ⟨_,_,_,h0⟩ | ⟨q,hq,_,hx⟩
  ·omega
  ·obtain ⟨q',cs,c1,c2,c3,_⟩:=hs.wr.cellsAt hm hq;rw [hq]at c1;cases c1;obtain ⟨c,_,g1,g2,_⟩:=hx (by rw [c3,hn]);omega
 exact hc hl en h1 h2 I ρ a w hs
def qE (t:Nat) (k:IntKind) (l:List Int):Ob := .cells ⟨t,l.length,fun i => .v (.int k (l.getD i 0)),0⟩
theorem aH (hT:TOK P T N) (F:List (Id×Nat)) {ts:List (Nat×AV)} {rs:List ResultVar} {r:AV} {B':List Ob} {st:St} {l:List AV} (hF:Nz st F) (ht:PN T st F ((mkB 0 B').map (·.1)) ts) (hm:PO T st F ((mkB 0 B').map (·.1)) (mkB 0 B')) (hb:(bs nb).all (fV ((mkB 0 B').map (·.1)))=true) (hl:BG T (aP ts (mkB 0 B')) rs=some (l,none)) (hr:r=resV l):Fin T N nt nb rs r B' st :=
 ⟨ts,Ent.mk hT F hF ht hm hb,(l,none),hl,trivial,hr⟩
end
section
variable {T:Nat→TI} {α β:Type} [DecidableEq α]
end
section
variable {P:Program} {T:Nat→TI} {N:Nat}
theorem DC {S:AV→AV→Prop}:∀ {l l':List AV},CVL S l l'→l.length=l'.length ∧ ∀ (i:Nat) (x y:AV),l[i]? = some x→l'[i]? = some y→CV S x y
 | [],l',h=>by cases (show l'=[]from h);exact ⟨rfl,fun i x y hi=>by simp at hi⟩
 | x::r,l',h=>by
  obtain ⟨y,r',rfl,h1,h2⟩:=h;obtain ⟨h3,h4⟩:=DC h2;refine ⟨by simp [h3],fun i a b ha hb=>?_⟩;cases i with
  | zero=>simp at ha hb;subst ha hb;exact h1
  | succ i=>exact h4 i a b (by simpa using ha) (by simpa using hb)
theorem AC.conv (hT:TOK P T N) {f:FuncId} {args args':List AV} {B:List Ob} {r:AV} {B':List Ob} (h:AC P T N f args' B r B') (hc:CVL (Fz (fun _=>none) (fun _=>0) T) args args'):AC P T N f args B r B' :=
 AC.args hT h (DC hc).1 (DC hc).2
end
theorem app1 {k:IntKind} {l:List Int} {g:Nat→AV} {x:Int} {z:AV} {n:Nat} (hn:n=l.length) (hg:∀ q,q<l.length→g q = .v (.int k (l.getD q 0))):∀ q,q<(l++[x]).length→lZ n 1 g (qR [(0,.v (.int k x))] z) q = .v (.int k ((l++[x]).getD q 0)):=by
 subst hn;intro q hq;rw [List.length_append,List.length_singleton]at hq;rcases Nat.lt_or_ge q l.length with h | h
 ·rw [yH h,hg q h];simp only [List.getD_eq_getElem?_getD,List.getElem?_append_left h]
 ·obtain rfl:q=l.length:=by omega
  rw [sZ (Nat.le_refl _) hq];simp [qR]
theorem pq {T:Nat→TI} {m:Id→Option Ob} {F:Id→Nat} {keep:List Id} {id:Id} {B:Blk} {t:Nat} {k:IntKind} {l:List Int} {X:Prop} (hm:m id=some (.cells B)) (ht:B.ty=t) (hn:B.n=l.length) (hz:B.fz=0) (hF:F id=0) (hg:∀ q,q<l.length→B.get q = .v (.int k (l.getD q 0))) :
 okO keep (qE t k l)∧((∃ o',m id=some o'∧ObC m F T (F id) o' (qE t k l))∨X):=by
 obtain ⟨ty,n,get,fz⟩:=B;simp only at ht hn hz hg;subst ht hn hz;exact ⟨fun _ _=>rfl,.inl ⟨_,hm,_,_,rfl,Nat.le_refl _,by rw [hF];exact Nat.le_refl _,Nat.zero_le _,fun q hq=>ah (hg q hq)⟩⟩
section
variable {T:Nat→TI} {α:Type}
def bJ (t:Nat) (enc:α→AV) (d:α) (l:List α):Ob := .cells ⟨t,l.length,fun i=>enc (l.getD i d),0⟩
theorem QV {enc:α→AV} {d:α} {l:List α} {g:Nat→AV} {x:α} {y z:AV} {n:Nat} (hn:n=l.length) (hy:y=enc x) (hg:∀ q,q<l.length→g q=enc (l.getD q d)):∀ q,q<(l++[x]).length→lZ n 1 g (qR [(0,y)] z) q=enc ((l++[x]).getD q d):=by
 subst hn hy;intro q hq;rw [List.length_append,List.length_singleton]at hq;rcases Nat.lt_or_ge q l.length with h | h
 ·rw [yH h,hg q h];simp only [List.getD_eq_getElem?_getD,List.getElem?_append_left h]
 ·obtain rfl:q=l.length:=by omega
  rw [sZ (Nat.le_refl _) hq];simp [qR]
theorem bM {m:Id→Option Ob} {F:Id→Nat} {keep:List Id} {id:Id} {B:Blk} {t:Nat} {enc:α→AV} {d:α} {l:List α} {X:Prop} (hok:∀ a,dM keep (enc a)=true) (hm:m id=some (.cells B)) (ht:B.ty=t) (hn:B.n=l.length) (hz:B.fz=0) (hF:F id=0) (hg:∀ q,q<l.length→B.get q=enc (l.getD q d)) :
 okO keep (bJ t enc d l)∧((∃ o',m id=some o'∧ObC m F T (F id) o' (bJ t enc d l))∨X):=by
 obtain ⟨ty,n,get,fz⟩:=B;simp only at ht hn hz hg;subst ht hn hz;exact ⟨fun _ _=>hok _,.inl ⟨_,hm,_,_,rfl,Nat.le_refl _,by rw [hF];exact Nat.le_refl _,Nat.zero_le _,fun q hq=>ah (hg q hq)⟩⟩
theorem Ky {enc:α→AV} {d:α} {l:List α} {i:Nat} {y:AV} {x:α} (h:i<l.length) (hy:y=enc x) (j:Nat):(bif Nat.beq j i then y else enc (l.getD j d))=enc ((l.set i x).getD j d):=by
 by_cases hj:j=i
 ·subst hj;simp [h,hy]
 ·rw [gQ hj,cond_false];simp only [List.getD_eq_getElem?_getD];rw [List.getElem?_set_ne (Ne.symm hj)]
theorem jk {σ:Id→Id} {t:Nat} {enc:α→AV} {d:α} {l:List α} (h:∀ a,ren σ (enc a)=enc a):iG σ (bJ t enc d l)=bJ t enc d l:=by
 simp only [bJ,iG,Ob.cells.injEq,Blk.mk.injEq,true_and,and_true];exact funext fun i=>h _
theorem aW {t n:Nat} {g h:Nat→AV} (H:∀ i,g i=h i):AV.agg t n g = .agg t n h:=by rw [show g=h from funext H]
theorem qB {m:Id→Option Ob} {F:Id→Nat} {e len:Nat} {f f':Bool} {g g':Nat→AV} (hf:f'=true→f=true) (h:∀ j,j<len→g j=g' j):Conv m F T (.row e f len g) (.row e f' len g'):=⟨f',g',rfl,hf,fun j hj=>ah (h j hj)⟩
end
section
variable {P:Program} {T:Nat→TI} {N nt nb:Nat}
theorem Fin.ent {rs:List ResultVar} {r:AV} {B':List Ob} {st st':St} (h:Ent T N nt nb st st') (k:Fin T N nt nb rs r B' st'):Fin T N nt nb rs r B' st:=by
 obtain ⟨ts,h1,h2⟩:=k;exact ⟨ts,h.trans h1,h2⟩
end
open Go.ChangeShapes Go.WideShapes Go.ChangeAt Go.RowKit
section
variable {P:Program} {T:Nat→TI} {N:Nat}
def Dec (P:Program) (T:Nat→TI) (N:Nat) (t:Nat) {α:Type} (enc:α→AV) (Q:α→Prop):Prop :=
 ∀ (H:Type) (eh:TypeId×Value→H) (w:World) (fuel:Nat) (cs:List Value) (d:DataW H) (ps:List MemPlace),DataW.trod eh P w 0 (fun _=>true) true fuel t cs=some (d,ps) → ∃ a,Q a∧Rep T N (sK w) iI (enc a) cs∧fit T t (enc a)=true
theorem Dec.map {t:Nat} {α β:Type} {enc:α→AV} {enc':β→AV} {Q:α→Prop} {Q':β→Prop} (h:Dec P T N t enc Q) (f:α→β) (he:∀ a,enc' (f a)=enc a) (hq:∀ a,Q a→Q' (f a)):Dec P T N t enc' Q':=fun H eh w fuel cs d ps hr=>by
 obtain ⟨a,h1,h2,h3⟩:=h H eh w fuel cs d ps hr;exact ⟨f a,hq a h1,by rw [he];exact h2,by rw [he];exact h3⟩
theorem Dec.int {t:Nat} {k:IntKind} (hu:P.underlying t=some (.int k)) (hk:(T t).kind.isAgg=false):Dec P T N t (fun n:Int => .v (.int k n)) (fun n=>k.min≤n∧n≤k.max):=by
 intro H eh w fuel cs d ps hr;cases fuel with
 | zero=>simp [DataW.trod]at hr
 | succ fuel =>
  unfold DataW.trod at hr;rw [hu]at hr
  match cs,hr with
  | [.int k' n],hr =>
   simp only [Option.ite_none_right_eq_some]at hr;obtain ⟨⟨rfl,hwf⟩,_⟩:=hr;simp only [Lit.wf,Bool.and_eq_true,decide_eq_true_eq]at hwf;exact ⟨n,hwf,.v rfl,by simp [fit,hk]⟩
theorem Dec.bool {t:Nat} (hu:P.underlying t=some .bool) (hk:(T t).kind.isAgg=false):Dec P T N t (fun b:Bool => .v (.bool b)) (fun _=>True):=by
 intro H eh w fuel cs d ps hr;cases fuel with
 | zero=>simp [DataW.trod]at hr
 | succ fuel =>
  unfold DataW.trod at hr;rw [hu]at hr
  match cs,hr with
  | [.bool b],hr=>exact ⟨b,trivial,.v rfl,by simp [fit,hk]⟩
theorem mapM_at {α β:Type} {f:α→Option β}:∀ {l:List α} {r:List β},l.mapM f=some r→r.length=l.length ∧ ∀ (i:Nat) (x:α),l[i]? = some x → ∃ y,r[i]? = some y∧f x=some y
 | [],r,h=>by
  simp at h;subst h;exact ⟨rfl,fun i x hi=>by simp at hi⟩
 | a::l,r,h=>by
  rw [List.mapM_cons]at h;simp only [Option.pure_def,Option.bind_eq_bind,Option.bind_eq_some_iff,Option.some.injEq]at h;obtain ⟨y,h1,ys,h2,rfl⟩:=h;obtain ⟨h3,h4⟩:=mapM_at h2;refine ⟨by simp [h3],fun i x hi=>?_⟩;cases i with
  | zero=>simp at hi;subst hi;exact ⟨y,rfl,h1⟩
  | succ i=>simpa using h4 i x (by simpa using hi)
theorem rF {w:World} {base:Nat} {a:Addr} {n:Nat} {cs:List Value} (h:w.cells? base a n=some cs):cs.length=n ∧ ∀ i,i<n→w.cell? (a.add i)=cs[i]? := by
 unfold World.cells? at h;split at h
 ·obtain ⟨h1,h2⟩:=mapM_at h;refine ⟨by simpa using h1,fun i hi=>?_⟩;obtain ⟨y,h3,h4⟩:=h2 i i (by simp [hi]);rw [h3];exact h4
 ·cases h
theorem TOK.cellsOf (hT:TOK P T N) {t:Nat} (ht:t<N):P.cellsOf t=(T t).size:=by
 obtain ⟨i,h1,h2,_⟩:=hT.info t ht;simp [Program.cellsOf,h1,h2]
def Rf {α:Type} (e:Nat) (enc:α→AV) (d:α) (f:Bool) (l:List α):AV := .row e f l.length (fun i=>enc (l.getD i d))
def mP (P:Program) (T:Nat→TI) (N:Nat) (fs:List Nat) {β:Type} (encL:β→List AV) (Q:β→Prop):Prop :=
 ∀ (H:Type) (eh:TypeId×Value→H) (w:World) (fuel:Nat) (cs:Nat→List Value),(∀ (i u:Nat),fs[i]? = some u → ∃ y:DataW H×List MemPlace,DataW.trod eh P w 0 (fun _=>true) true fuel u (cs i)=some y) →
  ∃ b,Q b∧(encL b).length=fs.length ∧ ∀ (i u:Nat),fs[i]? = some u→Rep T N (sK w) iI ((encL b).getD i .bad) (cs i)∧fit T u ((encL b).getD i .bad)=true
theorem mP.nil:mP P T N [] (fun _:Unit=>[]) (fun _=>True):=fun H eh w fuel cs h=>⟨(),trivial,rfl,fun i u hi=>by simp at hi⟩
theorem mP.cons {t:Nat} {fs:List Nat} {α β:Type} {enc:α→AV} {encL:β→List AV} {Q:α→Prop} {R:β→Prop} (hd:Dec P T N t enc Q) (hl:mP P T N fs encL R):mP P T N (t::fs) (fun x:α×β=>enc x.1::encL x.2) (fun x=>Q x.1∧R x.2):=by
 intro H eh w fuel cs h;obtain ⟨y,hy⟩:=h 0 t rfl;obtain ⟨a,q1,q2,q3⟩:=hd H eh w fuel (cs 0) y.1 y.2 hy;obtain ⟨b,r1,r2,r3⟩:=hl H eh w fuel (fun i=>cs (i+1)) (fun i u hi=>h (i+1) u (by simpa using hi));refine ⟨(a,b),⟨q1,r1⟩,by simp [r2],fun i u hi=>?_⟩;cases i with
 | zero=>simp at hi;subst hi;exact ⟨q2,q3⟩
 | succ i=>simpa using r3 i u (by simpa using hi)
theorem Dec.struct (hT:TOK P T N) {t:Nat} {fs:List Nat} {β:Type} {encL:β→List AV} {Q:β→Prop} (hk:(T t).kind = .struct fs) (hl:mP P T N fs encL Q):Dec P T N t (fun b=>bG t (encL b)) Q:=by
 intro H eh w fuel cs d ps hr;have htN:=hT.lt (t:=t) (by rw [hk];simp)
 obtain ⟨dd,hd1,hd2,hd3⟩:=hT.und t htN;rw [hk]at hd2;cases dd <;> simp only [kindOf,reduceCtorEq,TK.struct.injEq]at hd2
 rename_i flds;cases fuel with
 | zero=>simp [DataW.trod]at hr
 | succ fuel =>
  unfold DataW.trod at hr;rw [hd1]at hr;simp only [Option.ite_none_right_eq_some,Option.map_eq_some_iff]at hr;obtain ⟨hlen,xs,hxs,_⟩:=hr;obtain ⟨_,hat⟩:=mapM_at hxs;have hS:=hT.struct t fs hk
  have hszt:=hT.cellsOf htN;have hfl:∀ (i u:Nat),fs[i]? = some u → ∃ f,flds[i]? = some f∧f.type=u∧f.offset=lK T fs i:=by
   intro i u hu;have hu':=hu
   rw [← hd2]at hu;simp only [List.getElem?_map,Option.map_eq_some_iff,Array.getElem?_toList]at hu;obtain ⟨f,h1,h2⟩:=hu;refine ⟨f,h1,h2,?_⟩;rw [← hd2];exact (hd3 flds rfl i f h1).1
  have hex:∀ (i u:Nat),fs[i]? = some u → ∃ y:DataW H×List MemPlace,DataW.trod eh P w 0 (fun _=>true) true fuel u ((cs.drop (lK T fs i)).take ((fs.getD i 0|>T).size))=some y:=by
   intro i u hu;obtain ⟨f,h1,h2,h3⟩:=hfl i u hu;obtain ⟨y,_,h4⟩:=hat i f (by simpa using h1);refine ⟨y,?_⟩;rw [h2,h3,hT.cellsOf (hS.1 u (List.mem_of_getElem? hu))]at h4;rw [show fs.getD i 0=u by simp [hu]];exact h4
  obtain ⟨b,q1,q2,q3⟩:=hl H eh w fuel (fun i=>(cs.drop (lK T fs i)).take ((fs.getD i 0|>T).size)) hex;refine ⟨b,q1,?_,by simp [fit,bG,hk,TK.isAgg]⟩;have hcl:cs.length=lK T fs fs.length:=by rw [hlen,hszt,hS.2]
  have hmono:∀ k,k<fs.length→lK T fs (k+1)=lK T fs k+(T (fs.getD k 0)).size:=fun k hk'=>by
   simp only [lK,jq];simp [hk']
  have hup:∀ j k,k+j=fs.length→lK T fs k≤cs.length:=by
   intro j
   induction j with
   | zero=>intro k hkj;rw [hcl,← hkj];exact Nat.le_refl _
   | succ j ih =>
    intro k hkj;have h1:=ih (k+1) (by omega)
    rw [hmono k (by omega)]at h1;omega
  have hle:∀ k,k≤fs.length→lK T fs k≤cs.length∧(List.range k).flatMap (fun i=>(cs.drop (lK T fs i)).take ((fs.getD i 0|>T).size))=cs.take (lK T fs k):=by
   intro k
   induction k with
   | zero=>intro _;exact ⟨hup fs.length 0 (by omega),by simp [lK,jq]⟩
   | succ k ih =>
    intro hk';have h1:=ih (by omega)
    refine ⟨hup (fs.length - (k+1)) (k+1) (by omega),?_⟩;rw [List.range_succ,List.flatMap_append,h1.2,hmono k (by omega),List.take_add];simp
  have hflat:=(hle fs.length (Nat.le_refl _)).2;rw [← hcl,List.take_length]at hflat;have:=Rep.struct (T:=T) (N:=N) (I:=sK w) (ρ:=iI) (t:=t) (n:=fs.length) (get:=fun i=>(encL b).getD i .bad) fs (fun i=>(cs.drop (lK T fs i)).take ((fs.getD i 0|>T).size)) hk rfl htN (fun i u hu=>(q3 i u hu).1) (fun i u hu=>(q3 i u hu).2) (fun i u hu=>by
   have hi:=(List.getElem?_eq_some_iff.1 hu).1;have h1:=(hle (i+1) (by omega)).1
   rw [hmono i hi]at h1;rw [List.length_take,List.length_drop,show fs.getD i 0=u by simp [hu]]at *
   omega)
  rw [hflat]at this;simpa [bG,q2]using this
end
section
variable {P:Program} {T:Nat→TI} {N:Nat} {H:Type} {enc:TypeId×Value→H}
theorem pR (hl:laidOutB P=true) {W W':World} (hb:Below W.heap.size W W'):∀ {ts:List TypeId} {vs:List Value} {ds:List (DataW H)} {ps:List MemPlace},(ts.all fun t=>P.readableRec t&&decide (t<P.types.size))=true→DataW.TrodAll enc P W 0 (fun _=>true) true ts vs ds ps→(∀ y∈ps,y.block<W.heap.size) →
 DataW.TrodAll enc P W' 0 (fun b=>decide (b<W.heap.size)) true ts vs ds ps
 | [],[],[],ps,_,h,_=>h
 | [],_::_,_,_,_,h,_=>h.elim
 | [],[],_::_,_,_,h,_=>h.elim
 | _::_,[],_,_,_,h,_=>h.elim
 | _::_,_::_,[],_,_,h,_=>h.elim
 | t::ts,v::vs,d::ds,ps,ht,h,hlt=>by
  obtain ⟨p,q,h1,h2,rfl⟩:=h;simp only [List.all_cons,Bool.and_eq_true,decide_eq_true_eq]at ht;exact ⟨p,q,Below.trod hl ht.1.1 ht.1.2 h1 hb (fun y hy=>hlt y (List.mem_append_left _ hy)),pR hl hb ht.2 h2 (fun y hy=>hlt y (List.mem_append_right _ hy)),rfl⟩
theorem lN {W:World} {base:Nat} {sp:Nat→Bool} {held:Bool}:∀ {ts:List TypeId} {vs:List Value} {ds:List (DataW H)} {ps:List MemPlace},DataW.TrodAll enc P W base sp held ts vs ds ps→vs.length=ts.length∧ds.length=ts.length
 | [],[],[],ps,h=>⟨rfl,rfl⟩
 | [],_::_,_,_,h=>h.elim
 | [],[],_::_,_,h=>h.elim
 | _::_,[],_,_,h=>h.elim
 | _::_,_::_,[],_,h=>h.elim
 | t::ts,v::vs,d::ds,ps,h=>by
  obtain ⟨p,q,h1,h2,rfl⟩:=h;have:=lN h2
  simp [this.1,this.2]
theorem IL (hl:laidOutB P=true) {f:FuncId} {fn:Func} {tb:TypeId} {s:ChangeSpec} {W:World} {args:Array Value} {ds gs:List (DataW H)} {before:List MemPlace}
 (hrow:(fn.params.toList.all fun t=>P.readableRec t&&decide (t<P.types.size))=true) (hres:fn.resultTypes.toList=[tb]) (hb:P.underlying tb=some .bool) (hvars:s.vars=[])
 (hspec:∀ ds:List (DataW H),ds.length=fn.params.toList.length→s.fn H ds={ results:=[.lit (.bool true)],args:=ds})
 (hgl:∀ (b o n:Nat),(T b).glb[o]? = some n→W.cell? ⟨b,o,none⟩=some (.int .u8 n)) (hW:DataW.Whole enc P fn.params.toList s.vars false W args.toList ds gs before) {avs:List AV} (hac:AC P T N f avs [] (.bool true) []) (hlen:avs.length=args.toList.length)
 (hrep:∀ (i:Nat) (a:AV) (v:Value),avs[i]? = some a→args.toList[i]? = some v→gI T N (sK W) iI a v) :
 Calls P f args W fun e W' => ∃ v,e = .returned v∧s.post enc P fn false true false false W args v W':=by
 have hcall:=hac.2 (sK W) iI W args.toList hlen.symm (fun i a v h1 h2=>hrep i a v h1 h2) (mV (fun b o y h=>h) hgl);rw [Array.toArray_toList]at hcall;refine hcall.mono ?_;rintro e W' ⟨v,I',ρ',rfl,hev,hv,_⟩;have hbelow:Below W.heap.size W W':=⟨hev.os,hev.tape.1,hev.output,hev.size,fun k hk=>hev.frame k hk (fun id p hp=>by simp [iI]at hp)⟩
 have hW':=hW;obtain ⟨p,q,hA,hV,rfl,_,_⟩:=hW;rw [hvars]at hV;obtain ⟨rfl,rfl⟩:=trodVars_none hV;have hlt:∀ y∈p,y.block<W.heap.size:=fun y hy=>hW'.lt y (List.mem_append_left _ hy)
 have hA':=pR hl hbelow hrow hA hlt;obtain ⟨rfl,_⟩:=(hv.rep1 (fun _=>by simp)).v;have hsz:fn.resultTypes.size=1:=by
  have:=congrArg List.length hres;simpa using this
 refine ⟨_,rfl,ds,[],p++[],[],p,[],hW',?_,?_,?_,hbelow.frame _,fun h=>by cases h⟩
 ·rw [List.append_nil,hspec ds (lN hA).2,hres,hsz];exact trodAll_mk1 (shut_bool hb true)
 ·rw [List.append_nil,hspec ds (lN hA).2];exact hA'
 ·rw [List.append_nil,hspec ds (lN hA).2,hvars];rfl
end
section
variable {P:Program} {T:Nat→TI} {N:Nat}
theorem vk {cs:List Value} {s n:Nat} (h:cs.length=n*s):∀ k,k≤n→(List.range k).flatMap (fun i=>(cs.drop (i*s)).take s)=cs.take (k*s)
 | 0,_=>by simp
 | k+1,hk=>by
  rw [List.range_succ,List.flatMap_append,vk h k (by omega),Nat.succ_mul,List.take_add];simp
theorem Dec.array (hT:TOK P T N) {t n e:Nat} {α:Type} {enc:α→AV} {Q:α→Prop} (d0:α) (hk:(T t).kind = .array n e) (hd:Dec P T N e enc Q):Dec P T N t (fun l:List α => .agg t n (fun i=>enc (l.getD i d0))) (fun l=>l.length=n ∧ ∀ a∈l,Q a):=by
 intro H eh w fuel cs d ps hr;have htN:=hT.lt (t:=t) (by rw [hk];simp)
 obtain ⟨dd,hd1,hd2,hd3⟩:=hT.und t htN;rw [hk]at hd2;cases dd <;> simp only [kindOf,reduceCtorEq,TK.array.injEq]at hd2
 rename_i n' e';obtain ⟨rfl,rfl⟩:=hd2;obtain ⟨he,hsz⟩:=hT.array t n' e' hk;cases fuel with
 | zero=>simp [DataW.trod]at hr
 | succ fuel =>
  unfold DataW.trod at hr;rw [hd1]at hr;simp only [Option.ite_none_right_eq_some,Option.map_eq_some_iff]at hr;obtain ⟨hlen,xs,hxs,_⟩:=hr;obtain ⟨_,hat⟩:=mapM_at hxs;rw [hT.cellsOf htN,hsz]at hlen;have hce:=hT.cellsOf he
  have hex:∀ i,∃ a:α,i<n'→Q a∧Rep T N (sK w) iI (enc a) ((cs.drop (i*(T e').size)).take (T e').size)∧fit T e' (enc a)=true:=by
   intro i;by_cases hi:i<n'
   ·obtain ⟨y,_,h2⟩:=hat i i (by simp [hi]);rw [hce]at h2;obtain ⟨a,q1,q2,q3⟩:=hd H eh w fuel _ y.1 y.2 h2;exact ⟨a,fun _=>⟨q1,q2,q3⟩⟩
   ·exact ⟨d0,fun h=>absurd h hi⟩
  have hch:=fun i=>Classical.choose_spec (hex i);generalize hA:(fun i=>Classical.choose (hex i))=A at hch;have hA':∀ i,Classical.choose (hex i)=A i:=fun i=>congrFun hA i
  have hg:∀ i,i<n'→((List.range n').map A).getD i d0=A i:=fun i hi=>by simp [hi]
  refine ⟨(List.range n').map A,⟨by simp,fun a ha=>?_⟩,?_,by simp [fit,hk,TK.isAgg]⟩
  ·simp only [List.mem_map,List.mem_range]at ha;obtain ⟨i,hi,rfl⟩:=ha;have:=(hch i hi).1
   rwa [hA']at this
  ·have:=Rep.array (T:=T) (N:=N) (I:=sK w) (ρ:=iI) (t:=t) (n:=n') (get:=fun i=>enc (((List.range n').map A).getD i d0)) e' (fun i=>(cs.drop (i*(T e').size)).take (T e').size) hk htN
    (fun i hi=>by rw [hg i hi,← hA'];exact (hch i hi).2.1)
    (fun i hi=>by rw [hg i hi,← hA'];exact (hch i hi).2.2)
    (
     fun i hi=>by
     rw [List.length_take,List.length_drop,hlen];have:(i+1)*(T e').size≤n'*(T e').size:=Nat.mul_le_mul_right _ hi
     rw [Nat.succ_mul]at this;omega)
   rw [vk hlen n' (Nat.le_refl _),← hlen,List.take_length]at this;exact this
end
mutual
def okP (f:Id→Bool):AV→Bool
 | .v _=>true
 | .agg _ n get=>(List.range n).all fun i=>okP f (get i)
 | .tup vs=>Oo f vs
 | .row .. => true
 | .own id _ _ _ _=>f id
 | .arr id _ _ _ _ _ _=>f id
 | .ptr id _ _ _=>f id
 | .rp .. => true
 | .clo _ caps=>Oo f caps
 | .mp id=>f id
def Oo (f:Id→Bool):List AV→Bool
 | []=>true
 | x::r=>okP f x&&Oo f r
end
theorem Cj (f:Id→Bool):∀ l,Oo f l=l.all (okP f)
 | []=>rfl
 | x::r=>by simp [Oo,Cj f r]
def RH (f:Id→Bool):Ob→Prop
 | .cells B => ∀ i,i<B.n→okP f (B.get i)=true
 | .map es => ∀ p∈es,okP f p.1=true∧okP f p.2=true
section
variable {P:Program} {T:Nat→TI} {N:Nat}
theorem Rep.renP {I:Imm} {ρ:Pl} {x:AV} {cs:List Value} (h:Rep T N I ρ x cs):∀ {ρ':Pl} {f:Id→Bool} {σ:Id→Id},(∀ id,f id=true→ρ' (σ id)=ρ id)→okP f x=true→Rep T N I ρ' (Ab.ren σ x) cs:=by
 induction h with
 | v h=>intro _ _ _ _ _;exact .v h
 | struct fs segs hk hn ht h hf hl ih =>
  intro ρ' f σ hσ hi;simp only [okP,List.all_eq_true,List.mem_range]at hi;simp only [Ab.ren];exact .struct fs segs hk hn ht (fun i u hu=>ih i u hu hσ (hi i (by rw [← hn];exact (List.getElem?_eq_some_iff.1 hu).1))) (fun i u hu=>by rw [pJ];exact hf i u hu) hl
 | array e segs hk ht h hf hl ih =>
  intro ρ' f σ hσ hi;simp only [okP,List.all_eq_true,List.mem_range]at hi;simp only [Ab.ren];exact .array e segs hk ht (fun i h'=>ih i h' hσ (hi i h')) (fun i h'=>by rw [pJ];exact hf i h') hl
 | row b off cap segs he hc hm hfull h hf hl hI ih=>intro _ _ _ _ _;exact .row b off cap segs he hc hm hfull h hf hl hI
 | row0 he=>intro _ _ _ _ _;exact .row0 he
 | rp b off seg ht h hf hl hI=>intro _ _ _ _ _;exact .rp b off seg ht h hf hl hI
 | own p hp hn hx1 hx=>intro ρ' f σ hσ hi;exact .own p (by rw [hσ _ hi];exact hp) hn hx1 hx
 | own0=>intro _ _ _ _ _;exact .own0
 | arr p hp hn hx1 hx=>intro ρ' f σ hσ hi;exact .arr p (by rw [hσ _ hi];exact hp) hn hx1 hx
 | ptr p hp hn hx1 hx=>intro ρ' f σ hσ hi;exact .ptr p (by rw [hσ _ hi];exact hp) hn hx1 hx
 | clo ys hl h ih =>
  intro ρ' f σ hσ hi;simp only [okP,Cj,List.all_eq_true]at hi;simp only [Ab.ren,uy];refine .clo ys (by simpa using hl) (fun i c hc=>?_);simp only [List.getElem?_map,Option.map_eq_some_iff]at hc;obtain ⟨c',h1,rfl⟩:=hc;exact ih i c' h1 hσ (hi c' (List.mem_of_getElem? h1))
 | mp p hp hx1 hx=>intro ρ' f σ hσ hi;exact .mp p (by rw [hσ _ hi];exact hp) hx1 hx
theorem dI.renP {I:Imm} {ρ:Pl} {x:AV} {y:Value} (h:dI T N I ρ x y) {ρ':Pl} {f:Id→Bool} {σ:Id→Id} (hσ:∀ id,f id=true→ρ' (σ id)=ρ id) (hi:okP f x=true):dI T N I ρ' (Ab.ren σ x) y:=by
 obtain ⟨cs,h1,h2⟩:=h;exact ⟨cs,h1.renP hσ hi,by rw [zV];exact h2⟩
theorem gI.renP {I:Imm} {ρ:Pl} {x:AV} {y:Value} (h:gI T N I ρ x y) {ρ':Pl} {f:Id→Bool} {σ:Id→Id} (hσ:∀ id,f id=true→ρ' (σ id)=ρ id) (hi:okP f x=true):gI T N I ρ' (Ab.ren σ x) y:=by
 cases h with
 | one h=>exact .one (h.renP hσ hi)
 | @tup vs ys hl h =>
  simp only [okP,Cj,List.all_eq_true]at hi;simp only [Ab.ren,uy];refine .tup ys (by simpa using hl) (fun i c hc=>?_);simp only [List.getElem?_map,Option.map_eq_some_iff]at hc;obtain ⟨c',h1,rfl⟩:=hc;exact (h i c' h1).renP hσ (hi c' (List.mem_of_getElem? h1))
def PL (t:Nat→Option AV) (M:Id→Option Ob):St:=⟨fun k=>(t k).map fun x=>(.always,x),M⟩
theorem Oy (ts:List (Nat×AV)) (ms:List (Id×Ob)):aP ts ms=PL (fun k=>kF k ts) (fun id=>kC id ms):=rfl
open Classical in
noncomputable def Ae (f:Id→Bool) (σ:Id→Id) (ρ:Pl):Pl:=fun id'=>if h:∃ id,f id=true∧σ id=id' then ρ (Classical.choose h)else none
theorem KZ {f:Id→Bool} {σ:Id→Id} {ρ:Pl} (hinj:∀ a b,f a=true→f b=true→σ a=σ b→a=b) {id:Id} (h:f id=true):Ae f σ ρ (σ id)=ρ id:=by
 have hex:∃ id2,f id2=true∧σ id2=σ id:=⟨id,h,rfl⟩;unfold Ae;rw [dif_pos hex];have:=Classical.choose_spec hex
 rw [hinj _ _ this.1 h this.2]
theorem jT {f:Id→Bool} {σ:Id→Id} {ρ:Pl} {id':Id} {p:Place} (h:Ae f σ ρ id'=some p):∃ id,f id=true∧σ id=id'∧ρ id=some p:=by
 unfold Ae at h;split at h
 ·rename_i hex;exact ⟨_,(Classical.choose_spec hex).1,(Classical.choose_spec hex).2,h⟩
 ·cases h
def RV (T:Nat→TI) (st:St) (F:Id→Nat) (f:Id→Bool) (σ:Id→Id) (M:Id→Option Ob) (id':Id):Prop :=
 (∃ id o o1,f id=true∧σ id=id'∧st.m id=some o∧ObC st.m F T (F id) o o1∧RH f o1∧M id'=some (iG σ o1)) ∨
 ((∀ id,f id=true→σ id=id'→st.m id=none)∧(M id'=none ∨ ∃ e get,M id'=some (.cells ⟨e,0,get,0⟩)∧0<(T e).size))
def RU (T:Nat→TI) (st:St) (F:Id→Nat) (f:Id→Bool) (σ:Id→Id) (k:Nat) (x':AV):Prop :=
 ∃ x y,st.t k=some (.always,x)∧Conv st.m F T x y∧okP f y=true∧x'=ren σ y
theorem O3 (hT:TOK P T N) {e:Entry} {st:St} (F:Id→Nat) (f:Id→Bool) (σ:Id→Id) {t:Nat→Option AV} {M:Id→Option Ob} (hF:∀ id B,st.m id=some (.cells B)→F id≤B.n)
 (hinj:∀ a b,f a=true→f b=true→σ a=σ b→a=b) (ht:∀ k x',t k=some x'→RU T st F f σ k x') (hm:∀ id',RV T st F f σ M id') (hb:∀ j,j<e.nb→f (.b j)=true∧σ (.b j) = .b j)
 {I:Imm} {ρ:Pl} {a:Act} {w:World} (hs:dU T N e I ρ st a w):∃ I' ρ',dU T N e I' ρ' (PL t M) a w:=by
 have hw:=hs.wr;have hcond:∀ {b o:Nat},(∃ id q B,ρ id=some q∧st.m id=some (.cells B)∧q.b=b∧o<F id*(T B.ty).size) → ∃ id q B cs,ρ id=some q∧st.m id=some (.cells B)∧q.b=b∧o<F id*(T B.ty).size∧w.heap[b]? = some (.cells cs B.ty (0,0))∧o<cs.size∧w.cell? ⟨b,o,none⟩=cs[o]? := by
  rintro b o ⟨id,q,B,h1,h2,rfl,h4⟩;obtain ⟨q',cs,c1,c2,c3,c4,c5,c6,c7,c8,c9,c10⟩:=hw.cellsAt h2 h1;rw [h1]at c1;cases c1;have:F id*(T B.ty).size≤B.n*(T B.ty).size:=Nat.mul_le_mul_right _ (hF _ _ h2)
  exact ⟨id,q,B,cs,h1,h2,rfl,h4,c5,by omega,by simp [World.cell?,c5]⟩
 have hI:iQ I (zi T I ρ st.m w F):=by
  intro b o y h;unfold zi;split
  ·exact hw.imm b o y h
  ·exact h
 have hS:=CX hT hw hI (F:=F) (fun id B q cs h1 h2 h3=>⟨hF _ _ h1,fun j hj=>by
  unfold zi;rw [if_pos ⟨id,q,B,h2,h1,rfl,hj⟩];simp [World.cell?,h3]⟩)
 have hnew:∀ id,f id=true→Ae f σ ρ (σ id)=ρ id:=fun id h=>KZ hinj h;have hzero:∀ {id':Id},(∀ id,f id=true→σ id=id'→st.m id=none)→Ae f σ ρ id'=none:=fun {id'} h=>by
  cases hp:Ae f σ ρ id' with
  | none=>rfl
  | some p =>
   obtain ⟨id,h1,h2,h3⟩:=jT hp;exact absurd (h id h1 h2) (hw.dom id p h3)
 refine ⟨zi T I ρ st.m w F,Ae f σ ρ,⟨⟨?_,?_,?_,?_,?_,fun b o n h=>hI _ _ _ (hw.gl b o n h)⟩,?_,hs.nt,⟨hs.df.1.sub (fun id p hp=>(jT hp).elim fun id0 h=>⟨id0,h.2.2⟩),hs.df.2⟩,?_,hs.eb⟩⟩
 ·intro id' B' hB';have hB':M id'=some (.cells B'):=hB'
  rcases hm id' with ⟨id,o,o1,hf1,rfl,h1,h2,hok,h3⟩ | ⟨h1,h2⟩
  ·rw [h3]at hB';cases o with
   | map es=>rcases h2 with h2 | ⟨es',h2,_⟩ <;> (subst h2;cases hB')
   | cells B =>
    obtain ⟨get,fz,rfl,h4,h5,h6,h7⟩:=h2;simp only [iG,Option.some.injEq,Ob.cells.injEq]at hB';subst hB';rcases hw.cells id B h1 with ⟨d1,d2,d3,d4⟩ | ⟨p,cs,d1,d2,d3,d4,d5,d6,d7,d8,d9,d10⟩
    ·exact .inl ⟨by rw [hnew id hf1];exact d1,d2,by simp only;omega,d4⟩
    ·refine .inr ⟨p,cs,by rw [hnew id hf1];exact d1,d2,d3,d4,d5,d6,d7,fun i hi=>?_,fun j hj=>?_,h6⟩
     ·obtain ⟨seg,e1,e2,e3,e4⟩:=d8 i hi;obtain ⟨g1,g2⟩:=e1.cv hI hS (fun _ _ h=>h) _ (h7 i hi);exact ⟨seg,g1.renP hnew (hok i hi),by rw [pJ,g2];exact e2,e3,e4⟩
     ·unfold zi at hj;split at hj
      ·rename_i hcd;obtain ⟨id2,q2,B2,k1,k2,k3,k4⟩:=hcd;have:=hw.inj id2 id q2 p k1 d1 k3
       subst this;rw [h1]at k2;cases k2;exact Nat.lt_of_lt_of_le k4 (Nat.mul_le_mul_right _ h5)
      ·exact Nat.lt_of_lt_of_le (d9 j hj) (Nat.mul_le_mul_right _ h4)
  ·rcases h2 with h2 | ⟨e',get,h2,h3⟩
   ·rw [h2]at hB';cases hB'
   ·rw [h2]at hB';cases hB';exact .inl ⟨hzero h1,rfl,rfl,hT.lt_size h3⟩
 ·intro id' es' hB';have hB':M id'=some (.map es'):=hB'
  rcases hm id' with ⟨id,o,o1,hf1,rfl,h1,h2,hok,h3⟩ | ⟨h1,h2⟩
  ·rw [h3]at hB';cases o with
   | cells B=>obtain ⟨get,fz,rfl,_⟩:=h2;cases hB'
   | map es =>
    obtain ⟨p,en,cl,d1,d2,d3,d4,d5,d6⟩:=hw.maps id es h1;have hd5:∀ j,zi T I ρ st.m w F p.b j=none:=by
     intro j;unfold zi;split
     ·rename_i hcd;obtain ⟨id2,q2,B2,k1,k2,k3,k4⟩:=hcd;have:=hw.inj id2 id q2 p k1 d1 k3
      subst this;rw [h1]at k2;cases k2
     ·exact d5 j
    rcases h2 with h2 | ⟨es2,h2,h4,h5⟩
    ·subst h2;simp only [iG,Option.some.injEq,Ob.map.injEq]at hB';subst hB';refine ⟨p,en,cl,by rw [hnew id hf1];exact d1,d2,d3,by simpa using d4,hd5,fun i k v hi=>?_⟩;simp only [List.getElem?_map,Option.map_eq_some_iff,Prod.mk.injEq]at hi;obtain ⟨pp,hi,rfl,rfl⟩:=hi;obtain ⟨e,e1,e2,e3⟩:=d6 i pp.1 pp.2 hi;have:=hok _ (List.mem_of_getElem? hi)
     exact ⟨e,e1,(e2.mono hI (iP.refl _)).renP hnew this.1,(e3.mono hI (iP.refl _)).renP hnew this.2⟩
    ·subst h2;simp only [iG,Option.some.injEq,Ob.map.injEq]at hB';subst hB';refine ⟨p,en,cl,by rw [hnew id hf1];exact d1,d2,d3,by simp [h4,d4],hd5,fun i k v hi=>?_⟩;simp only [List.getElem?_map,Option.map_eq_some_iff,Prod.mk.injEq]at hi;obtain ⟨p1,hi,rfl,rfl⟩:=hi;obtain ⟨pp,k1,k2,k3⟩:=h5 i _ hi;obtain ⟨e,e1,e2,e3⟩:=d6 i pp.1 pp.2 k1;have:=hok _ (List.mem_of_getElem? hi)
     exact ⟨e,e1,(e2.conv hI hS k2).renP hnew this.1,(e3.conv hI hS k3).renP hnew this.2⟩
  ·rcases h2 with h2 | ⟨e',get,h2,h3⟩ <;> (rw [h2]at hB';cases hB')
 ·intro id' p hp;obtain ⟨id,h1,h2,h3⟩:=jT hp;have hd:=hw.dom id p h3
  rcases hm id' with ⟨_,_,_,_,_,_,_,_,h4⟩ | ⟨h4,_⟩
  ·show M id'≠none;rw [h4];simp
  ·exact absurd (h4 id h1 h2) hd
 ·intro i j p q hp hq h;obtain ⟨id,h1,h2,h3⟩:=jT hp;obtain ⟨id2,k1,k2,k3⟩:=jT hq;have:=hw.inj id id2 p q h3 k3 h
  subst this;rw [← h2,← k2]
 ·intro b o y hy;unfold zi at hy;split at hy
  ·exact hy
  ·exact hw.imm b o y hy
 ·intro k d x hx;simp only [PL,Option.map_eq_some_iff,Prod.mk.injEq]at hx;obtain ⟨x0,h1,rfl,rfl⟩:=hx;obtain ⟨x,y,h2,h3,h4,rfl⟩:=ht k x0 h1;refine ⟨fun _=>?_,fun h=>absurd trivial h⟩;exact (((hs.tm k _ _ h2).1 trivial).conv hI hS h3).renP hnew h4
 ·have hev:=hs.ev;refine ⟨hev.imm.trans hI,fun b o h h'=>?_,fun id p hp=>?_,fun id' p hp=>?_,hev.frame,hev.size,hev.os,hev.output,hev.tape⟩
  ·unfold zi at h';split at h'
   ·rename_i hcd;obtain ⟨id,q,B,k1,k2,rfl,k4⟩:=hcd;exact hev.plN id q k1
   ·exact hev.immN b o h h'
  ·obtain ⟨j,hj,rfl⟩:=hs.eb id p hp;obtain ⟨h1,h2⟩:=hb j hj;obtain ⟨p',h3,h4⟩:=hev.pl _ p hp;have:=hnew _ h1
   rw [h2]at this;exact ⟨p',by rw [this];exact h3,h4⟩
  ·obtain ⟨id,h1,h2,h3⟩:=jT hp;exact hev.plN id p h3
theorem Ent.gen {nt nb:Nat} (hT:TOK P T N) {st:St} (F:Id→Nat) (f:Id→Bool) (σ:Id→Id) {t:Nat→Option AV} {M:Id→Option Ob} (hF:∀ id B,st.m id=some (.cells B)→F id≤B.n)
 (hinj:∀ a b,f a=true→f b=true→σ a=σ b→a=b) (ht:∀ k x',t k=some x'→RU T st F f σ k x') (hm:∀ id',RV T st F f σ M id') (hb:∀ j,j<nb→f (.b j)=true∧σ (.b j) = .b j):Ent T N nt nb st (PL t M) :=
 fun e h1 h2 I ρ a w hs=>O3 hT F f σ hF hinj ht hm (by rw [h2];exact hb) hs
end
section
variable {P:Program} {T:Nat→TI} {N:Nat}
structure Grown (A B:World):Prop where
 size:A.heap.size≤B.heap.size
 same:∀ b,b<A.heap.size→B.heap[b]? = A.heap[b]?
 os:B.os=A.os
 output:B.output=A.output
 tape:B.tape=A.tape∧A.drawn≤B.drawn
theorem Grown.refl (A:World):Grown A A:=⟨Nat.le_refl _,fun _ _=>rfl,rfl,rfl,rfl,Nat.le_refl _⟩
theorem Grown.trans {A B C:World} (h:Grown A B) (k:Grown B C):Grown A C :=
 ⟨Nat.le_trans h.size k.size,fun b hb=>(k.same b (Nat.lt_of_lt_of_le hb h.size)).trans (h.same b hb),k.os.trans h.os,k.output.trans h.output,k.tape.1.trans h.tape.1,Nat.le_trans h.tape.2 k.tape.2⟩
theorem Grown.heap {A B:World} (h:Grown A B) {b:Nat} {o:Obj} (hb:A.heap[b]? = some o):B.heap[b]? = some o :=
 (h.same b (Array.getElem?_eq_some_iff.1 hb).1).trans hb
theorem Grown.cell {A B:World} (h:Grown A B) {a:Addr} {y:Value} (hc:A.cell? a=some y):B.cell? a=some y:=by
 unfold World.cell? at hc ⊢;cases hb:A.heap[a.block]? with
 | none=>rw [hb]at hc;cases hc
 | some o=>rw [hb]at hc;rw [h.heap hb];exact hc
theorem Grown.of_ev {I I':Imm} {ρ':Pl} {w w':World} (h:Ev I iI w I' ρ' w'):Grown w w' :=
 ⟨h.size,fun b hb=>h.frame b hb (fun id p hp=>by cases hp),h.os,h.output,h.tape⟩
theorem Grown.alloc (w:World) (o:Obj):Grown w (w.alloc o) :=
 ⟨by simp,fun b hb=>bF w o hb,rfl,rfl,rfl,Nat.le_refl _⟩
end
section
variable {P:Program} {T:Nat→TI} {N:Nat}
end
section
variable {P:Program} {T:Nat→TI} {N:Nat}
theorem OY (hT:TOK P T N) (hE:xH P T N) {e:Entry} {ops:Array Oper} {Q:Exit→Act→World→Prop} {l2:List Oper} (rd:Option Nat) (n:Nat):∀ (l:List Oper) (s s':RS) {I:Imm} {ρ:Pl} {a:Act} {w:World},dU T N e I ρ s.st a w →
 evL T (AC P T N) e.nt ops.toList l s=some s'→aj s'.c→(∀ I' ρ' a' w',dU T N e I' ρ' s'.st a' w'→wpListIn (jH rd) n P ops Q l2 a' w')→aj s.c∧wpListIn (jH rd) n P ops Q (l++l2) a w
 | [],s,s',I,ρ,a,w,hs,h,hc,hQ=>by cases h;exact ⟨hc,hQ _ _ _ _ hs⟩
 | o::r,s,s',I,ρ,a,w,hs,h,hc,hQ=>by
  simp only [evL,Option.bind_eq_some_iff]at h;obtain ⟨G,h1,x,h2,h3⟩:=h;obtain ⟨hnt,h3⟩:=ak h3;have key:∀ {I':Imm} {ρ':Pl} {a':Act} {w':World},dU T N e I' ρ' (s.st.after o G x.1) a' w'→aj (fG s.c x.1.c)∧wpListIn (jH rd) n P ops Q (r++l2) a' w':=fun hs'=>OY hT hE rd n r _ s' hs' h3 hc hQ
  have hcc:aj (fG s.c x.1.c):=by
   clear key;have:∀ (l:List Oper) (s1:RS),evL T (AC P T N) e.nt ops.toList l s1=some s'→aj s1.c:=by
    intro l
    induction l with
    | nil=>intro s1 h;cases h;exact hc
    | cons o r ih =>
     intro s1 h;simp only [evL,Option.bind_eq_some_iff]at h;obtain ⟨G,h1,x,h2,h3⟩:=h;obtain ⟨_,h3⟩:=ak h3;have:=ih _ h3
     simp only at this;rw [aB]at this;exact this.1
   exact this _ _ h3
  rw [aB]at hcc;refine ⟨hcc.1,?_⟩;have hst:=qL (ops:=ops) (Q:=Q) (K:=wpListIn (jH rd) n P ops Q (r++l2)) hT hE hs h1 h2 hcc.2 hnt (fun I' ρ' a' w' hs'=>(key hs').2) rd n
  rw [List.cons_append];unfold wpListIn;by_cases hw:Region.wanted o (yielded ops a.tmps)=true
  ·rw [if_pos hw]at hst ⊢;exact hst
  ·rw [if_neg hw]at hst ⊢;exact ⟨fun _ _=>trivial,hst⟩
def ItS (T:Nat→TI) (N nt:Nat) {α:Type} (J:List α→(Nat→Prop)→World→Prop) (I:Imm) (pre:List α) (t:Nat→Option (D×AV)) (a:Act) (W:World):Prop :=
 ∃ Y Wp Im,J pre Y Wp∧Grown Wp W∧dU T N ⟨Im,iI,W,nt,0,true⟩ Im iI ⟨t,fun _=>none⟩ a W ∧ ∀ b o y,Im b o=some y→I b o=some y∨¬ Y b
theorem ItS.mk {nt:Nat} {α:Type} {J:List α→(Nat→Prop)→World→Prop} (hY:∀ pre Y A b,J pre Y A→Y b→b<A.heap.size) {I:Imm} {pre:List α} {Y:Nat→Prop} {Wp W W':World} {Im I':Imm} {ρ':Pl} {t:Nat→Option (D×AV)} {a':Act}
 (hJ:J pre Y Wp) (hg:Grown Wp W) (hIm:∀ b o y,Im b o=some y→I b o=some y∨¬ Y b) (hs:dU T N ⟨Im,iI,W,nt,0,true⟩ I' ρ' ⟨t,fun _=>none⟩ a' W'):ItS T N nt J I pre t a' W':=by
 have hρ:ρ'=iI:=funext fun id=>by
  cases h:ρ' id with
  | none=>rfl
  | some p=>exact absurd rfl (hs.wr.dom id p h)
 subst hρ;have hgr:Grown W W':=Grown.of_ev hs.ev
 refine ⟨Y,Wp,I',hJ,hg.trans hgr,⟨hs.wr,hs.tm,hs.nt,?_,Ev.refl _ _ _,fun id p hp=>by cases hp⟩,fun b o y hy=>?_⟩
 ·have:a'.defers=[]:=hs.df.2 rfl;rw [this];exact ⟨Marks.nil,fun _=>rfl⟩
 ·cases h:Im b o with
  | some z =>
   have h2:=hs.ev.imm b o z h;rw [hy]at h2;cases h2;exact hIm b o y h
  | none =>
   rcases hs.ev.immN b o h (by rw [hy];simp)with ⟨id,p,hp,_⟩ | hb
   ·cases hp
   ·refine .inr fun hYb=>?_;have h1:=hY pre Y Wp b hJ hYb
    have h2:=hg.size;have hb':W.heap.size≤b:=hb
    omega
theorem ItS.step {nt:Nat} {α:Type} {J:List α→(Nat→Prop)→World→Prop} (hY:∀ pre Y A b,J pre Y A→Y b→b<A.heap.size) {I:Imm} {pre:List α} {t t':Nat→Option (D×AV)} {a:Act} {W:World} {c:Code} {Q:Exit→Act→World→Prop} {n:Nat}
 (hi:ItS T N nt J I pre t a W) (h:WP Sz P T N nt 0 c (fun ex st'=>ex = .normal∧Ent T N nt 0 st' ⟨t',fun _=>none⟩) ⟨t,fun _=>none⟩) (hQ:∀ a' W',ItS T N nt J I pre t' a' W'→Q .normal a' W'):c.wpIn (jH none) n P Q a W:=by
 obtain ⟨Y,Wp,Im,h1,h2,h3,h4⟩:=hi;refine wpIn_mono (h ⟨Im,iI,W,nt,0,true⟩ rfl rfl Im iI a W h3 none trivial n) ?_;rintro ex a' W' ⟨st',I',ρ',⟨rfl,hent⟩,hs'⟩;obtain ⟨I2,ρ2,hs2⟩:=hent ⟨Im,iI,W,nt,0,true⟩ rfl rfl I' ρ' a' W' hs';exact hQ a' W' (ItS.mk hY h1 h2 h4 hs2)
theorem ItS.ent {nt:Nat} {α:Type} {J:List α→(Nat→Prop)→World→Prop} (hY:∀ pre Y A b,J pre Y A→Y b→b<A.heap.size) {I:Imm} {pre:List α} {t t':Nat→Option (D×AV)} {a:Act} {W:World}
 (hi:ItS T N nt J I pre t a W) (h:Ent T N nt 0 ⟨t,fun _=>none⟩ ⟨t',fun _=>none⟩):ItS T N nt J I pre t' a W:=by
 obtain ⟨Y,Wp,Im,h1,h2,h3,h4⟩:=hi;obtain ⟨I2,ρ2,hs2⟩:=h ⟨Im,iI,W,nt,0,true⟩ rfl rfl Im iI a W h3;exact ItS.mk hY h1 h2 h4 hs2
theorem ItS.cond {nt:Nat} {α:Type} {J:List α→(Nat→Prop)→World→Prop} {I:Imm} {pre:List α} {t:Nat→Option (D×AV)} {a:Act} {W:World} {c:Operand} {x y:Code} {Q:Exit→Act→World→Prop} {n:Nat} {b:Bool}
 (hi:ItS T N nt J I pre t a W) (hc:ev ⟨t,fun _=>none⟩ c=some (.always,.v (.bool b))) (h1:b=true→x.wpIn (jH none) n P Q a W) (h2:b=false→y.wpIn (jH none) n P Q a W):(Code.cond c x y).wpIn (jH none) n P Q a W:=by
 obtain ⟨Y,Wp,Im,k1,k2,k3,k4⟩:=hi;exact wpIn_cond_split ((rY k3 hc trivial).v).1 h1 h2
def Rounds (P:Program) {α:Type} (l M:Nat) (encs:α→Array Value) (J:List α→(Nat→Prop)→World→Prop) (I:Imm):Prop :=
 ∀ pre x Y Wp W1,J pre Y Wp→Grown Wp W1→pre.length<M → ∀ n,YieldAt Fence.wide n P l (encs x) W1 fun e W'=>e = .returned (.bool true) ∧
  (∃ Y',J (pre++[x]) Y' W' ∧ ∀ b,Y' b→Y b∨W1.heap.size≤b)∧(∀ b o y,I b o=some y→W1.cell? ⟨b,o,none⟩=some y→W'.cell? ⟨b,o,none⟩=some y) ∧
  (∀ b,b<W1.heap.size→¬ Y b→W'.heap[b]? = W1.heap[b]?)∧W1.heap.size≤W'.heap.size
theorem ItS.yield {nt:Nat} {α:Type} {J:List α→(Nat→Prop)→World→Prop} (hY:∀ pre Y A b,J pre Y A→Y b→b<A.heap.size) {I:Imm} {pre:List α} {t:Nat→Option (D×AV)} {a:Act} {W:World} {Q:Exit→Act→World→Prop} {n:Nat}
 {o:Oper} {r:List Oper} {ops:Array Oper} {c:Call} {fo xo:Operand} {d l M:Nat} {G G1 G2:D} {xv:Value} {x:α} {encs:α→Array Value}
 (hr:Rounds P l M encs J I) (hi:ItS T N nt J I pre t a W) (hop:o.op = .call c) (hcal:c.callee = .value fo) (hargs:c.args = #[xo]) (hdst:o.dst=some d) (hd:d<nt)
 (hg:jM ops.toList ⟨t,fun _=>none⟩ o=some G) (hfo:ev ⟨t,fun _=>none⟩ fo=some (G1,.v (.func (.yield l) #[] #[]))) (h1:G.tr→G1.tr) (hxo:ev ⟨t,fun _=>none⟩ xo=some (G2,.v xv)) (h2:G.tr→G2.tr)
 (hx:G.tr→encs x = #[xv]) (hM:G.tr→pre.length<M)
 (hyes:G.tr → ∀ a' W',ItS T N nt J I (pre++[x]) (Hz t d (some (G,.v (.bool true)))) a' W'→wpListIn (jH none) n P ops Q r a' W')
 (hno:¬ G.tr → ∀ a',ItS T N nt J I pre (Hz t d (some (G,.v (.bool true)))) a' W→wpListIn (jH none) n P ops Q r a' W) :
 wpListIn (jH none) n P ops Q (o::r) a W:=by
 obtain ⟨Y,Wp,Im,k1,k2,k3,k4⟩:=hi;have hwant:=l9 k3 hg
 have hdn:d<a.tmps.size:=by rw [k3.nt];exact hd
 unfold wpListIn;by_cases hG:G.tr
 ·rw [if_pos (hwant.1 hG)];refine ⟨fun _ _=>trivial,?_⟩;rw [Oper.semAt_eq _ _ _ (by simp [hop])];obtain ⟨fn,tmps,assign,body,hy,hR⟩:=hr pre x Y Wp W k1 k2 (hM hG) (n - 1);rw [hx hG]at hy;have e1:=((rY k3 hfo (h1 hG)).v).1
  have e2:=((rY k3 hxo (h2 hG)).v).1;have hrun:(execOp a.eval o).run P W = .ok (.round l fn tmps assign body) W:=by
   unfold execOp;rw [hop];simp only [resolve,hcal,e1,hargs,List.map_toArray,List.map_cons,List.map_nil,e2];simp [go_sem,hy]
  rw [hrun];refine ⟨fun h=>(by cases h),RoundIn.mono hR ?_⟩;rintro e W' ⟨rfl,⟨Y',j1,j2⟩,j3,j4,j5⟩;refine hyes hG _ W' ⟨Y',W',Im,j1,Grown.refl W',⟨?_,fun k d2 y ht=>?_,?_,?_,Ev.refl _ _ _,fun id p hp=>by cases hp⟩,fun b o2 y h=>?_⟩
  ·have:dR T N Im iI (ofB []) W':=mV (fun b o2 y h=>by
    have hc:=k3.wr.imm b o2 y h;rcases k4 b o2 y h with hI | hnY
    ·exact j3 b o2 y hI hc
    ·unfold World.cell? at hc ⊢;cases hb:W.heap[b]? with
     | none=>simp only [hb]at hc;cases hc
     | some ob =>
      simp only [hb]at hc;have:=j4 b (Array.getElem?_eq_some_iff.1 hb).1 hnY
      simp only [this,hb];exact hc) k3.wr.gl
   rwa [show ofB []=fun _=>none from funext fun id=>by cases id <;> simp [ofB]]at this
  ·rw [hdst,xM hdn];simp only [Hz]at ht;by_cases hk:k=d
   ·subst hk;rw [Nat.beq_refl,cond_true]at ht;cases ht;rw [if_pos rfl];exact ⟨fun _=>cZ rfl,fun h=>absurd hG h⟩
   ·rw [gQ hk,cond_false]at ht;rw [if_neg hk];exact k3.tm k d2 y ht
  ·rw [← k3.nt,hdst];simp [Act.put]
  ·have:a.defers=[]:=k3.df.2 rfl;rw [hdst];simp only [Act.put];rw [this];exact ⟨Marks.nil,fun _=>rfl⟩
  ·rcases k4 b o2 y h with hI | hnY
   ·exact .inl hI
   ·refine .inr fun hY'=>?_;rcases j2 b hY' with h' | h'
    ·exact hnY h'
    ·have:=iE (k3.wr.imm b o2 y h);omega
 ·rw [if_neg (fun e=>hG (hwant.2 e))];refine ⟨fun _ _=>trivial,hno hG _ ⟨Y,Wp,Im,k1,k2,⟨k3.wr,fun k d2 y ht=>?_,?_,?_,k3.ev,k3.eb⟩,k4⟩⟩
  ·rw [hdst,xM hdn];simp only [Hz]at ht;by_cases hk:k=d
   ·subst hk;rw [Nat.beq_refl,cond_true]at ht;cases ht;rw [if_pos rfl];exact ⟨fun h=>absurd h hG,fun _=>rfl⟩
   ·rw [gQ hk,cond_false]at ht;rw [if_neg hk];exact k3.tm k d2 y ht
  ·rw [← k3.nt,hdst];simp [Act.put]
  ·rw [hdst];exact k3.df
end
section
variable {P:Program} {T:Nat→TI} {N nt:Nat} {α:Type} {J:List α→(Nat→Prop)→World→Prop} {I:Imm} {pre:List α} {t t':Nat→Option (D×AV)} {a:Act} {W:World} {Q:Exit→Act→World→Prop} {n:Nat} {ops:Array Oper}
theorem ItS.begins (hT:TOK P T N) (hE:xH P T N) (hY:∀ pre Y A b,J pre Y A→Y b→b<A.heap.size) {l1 l2:List Oper} (gs:List CG) {gs':List CG} {c:Option Prop} (hi:ItS T N nt J I pre t a W) (h:evF T (AC P T N) nt ops.toList l1 t (fun _=>none) gs none=some ⟨⟨t',fun _=>none⟩,gs',c⟩) (hc:aj c)
 (hQ:∀ a' W',ItS T N nt J I pre t' a' W'→wpListIn (jH none) n P ops Q l2 a' W'):wpListIn (jH none) n P ops Q (l1++l2) a W:=by
 obtain ⟨Y,Wp,Im,h1,h2,h3,h4⟩:=hi;rw [ER]at h;exact (OY hT hE none n l1 ⟨⟨t,fun _=>none⟩,gs,none⟩ _ h3 h hc (fun I' ρ' a' w' hs'=>hQ a' w' (ItS.mk hY h1 h2 h4 hs'))).2
theorem ItS.ends (hT:TOK P T N) (hE:xH P T N) (hY:∀ pre Y A b,J pre Y A→Y b→b<A.heap.size) {l1:List Oper} (gs:List CG) {gs':List CG} {c:Option Prop} (hi:ItS T N nt J I pre t a W) (h:evF T (AC P T N) nt ops.toList l1 t (fun _=>none) gs none=some ⟨⟨t',fun _=>none⟩,gs',c⟩) (hc:aj c)
 (hQ:∀ a' W',ItS T N nt J I pre t' a' W'→Q .normal a' W'):wpListIn (jH none) n P ops Q l1 a W:=by
 have:=ItS.begins (l2:=[]) (Q:=Q) (n:=n) hT hE hY gs hi h hc hQ
 rwa [List.append_nil]at this
theorem ItS.val (hi:ItS T N nt J I pre t a W) {k:Nat} {x:Value} (h:t k=some (.always,.v x)):a.tmps.getD k undef=x:=by
 obtain ⟨Y,Wp,Im,h1,h2,h3,h4⟩:=hi;exact (((h3.tm k _ _ h).1 trivial).v).1
theorem ItS.fin {fn:Func} {S:List α→Prop} (hi:ItS T N nt J I pre t a W) (hS:S pre) (hres:fn.results = #[]) :
 a.defers=[] ∧ ∃ v,(results fn a.tmps).run P W = .ok v W∧(∃ v',(Ending.returned v) = .returned v') ∧ ∃ xs Y Wp,S xs∧J xs Y Wp∧Grown Wp W:=by
 obtain ⟨Y,Wp,Im,h1,h2,h3,h4⟩:=hi;refine ⟨h3.df.2 rfl,.tuple #[],?_,⟨_,rfl⟩,pre,Y,Wp,hS,h1,h2⟩;simp [results,hres]
end
mutual
theorem qV (ids:List Id):∀ x,okP (fV ids) x=dM ids x
 | .v _=>rfl
 | .agg _ n get=>by simp only [okP,dM];congr 1;funext i;exact qV ids (get i)
 | .tup vs=>yA ids vs
 | .row .. => rfl
 | .own .. => rfl
 | .arr .. => rfl
 | .ptr .. => rfl
 | .rp .. => rfl
 | .clo _ caps=>yA ids caps
 | .mp _=>rfl
theorem yA (ids:List Id):∀ l,Oo (fV ids) l=uO ids l
 | []=>rfl
 | x::r=>by simp only [Oo,uO,qV ids x,yA ids r]
end
theorem KO {ids:List Id} {o:Ob} (h:okO ids o):RH (fV ids) o:=by
 cases o with
 | cells B=>exact fun i hi=>by rw [qV];exact h i hi
 | map es=>exact fun p hp=>⟨by rw [qV];exact (h p hp).1,by rw [qV];exact (h p hp).2⟩
section
variable {P:Program} {T:Nat→TI} {N:Nat}
def RX (T:Nat→TI) (st:St) (F:List (Id×Nat)) (all:List Id) (id:Id) (o':Ob):Prop :=
 (∃ o o1,st.m id=some o∧ObC st.m (fun id=>eH id F) T (eH id F) o o1∧okO all o1∧o'=iG (sig all 0) o1)∨(st.m id=none ∧ ∃ e get,o' = .cells ⟨e,0,get,0⟩∧0<(T e).size)
def LZ (T:Nat→TI) (st:St) (F:List (Id×Nat)) (all:List Id):List Id→List Ob→Prop
 | [],[]=>True
 | id::r,o::s=>RX T st F all id o∧LZ T st F all r s
 | _,_=>False
def LY (T:Nat→TI) (st:St) (F:List (Id×Nat)) (all:List Id):List (Nat×AV)→Prop
 | []=>True
 | (k,x')::r=>(∃ x y,st.t k=some (.always,x)∧Conv st.m (fun id=>eH id F) T x y∧dM all y=true∧x'=ren (sig all 0) y)∧LY T st F all r
theorem EU {st:St} {F:List (Id×Nat)} {all:List Id}:∀ {ids:List Id} {B:List Ob},LZ T st F all ids B→B.length=ids.length ∧ ∀ (i:Nat) (id:Id) (o:Ob),ids[i]? = some id→B[i]? = some o→RX T st F all id o
 | [],[],_=>⟨rfl,fun i id o h=>by simp at h⟩
 | [],_::_,h=>h.elim
 | _::_,[],h=>h.elim
 | id::r,o::s,h=>by
  obtain ⟨h1,h2⟩:=EU h.2;refine ⟨by simp [h1],fun i id' o' hi ho=>?_⟩;cases i with
  | zero=>simp at hi ho;subst hi ho;exact h.1
  | succ i=>exact h2 i id' o' (by simpa using hi) (by simpa using ho)
theorem ET {st:St} {F:List (Id×Nat)} {all:List Id}:∀ {ts:List (Nat×AV)} {k:Nat} {x':AV},LY T st F all ts→(k,x')∈ts → ∃ x y,st.t k=some (.always,x)∧Conv st.m (fun id=>eH id F) T x y∧dM all y=true∧x'=ren (sig all 0) y
 | [],_,_,_,h=>by cases h
 | (j,y)::r,k,x,h,hm=>by
  cases hm with
  | head=>exact h.1
  | tail _ hm=>exact ET h.2 hm
theorem Ent.toB (hT:TOK P T N) {nt:Nat} {st:St} (F:List (Id×Nat)) (ids:List Id) {ts:List (Nat×AV)} {B:List Ob} (hF:Nz st F) (hnd:distinct ids=true) (ht:LY T st F ids ts) (hm:LZ T st F ids ids B):Ent T N nt 0 st (PL (fun k=>kF k ts) (ofB B)):=by
 have hnd':ids.Nodup:=by
  clear ht hm
  induction ids with
  | nil=>exact List.nodup_nil
  | cons a r ih =>
   simp only [distinct,Bool.and_eq_true,Bool.not_eq_true']at hnd;refine List.nodup_cons.2 ⟨fun h=>?_,ih hnd.2⟩;rw [eF.2 h]at hnd;cases hnd.1
 obtain ⟨hlen,hat⟩:=EU hm;refine Ent.gen hT (fun id=>eH id F) (fV ids) (sig ids 0) (fun id B hB=>yQ hF hB) (fun a b ha hb hab=>?_) (fun k x' hk=>?_) (fun id'=>?_) (fun j hj=>absurd hj (Nat.not_lt_zero _))
 ·obtain ⟨i,hi⟩:=List.getElem?_of_mem (eF.1 ha);obtain ⟨j,hj⟩:=List.getElem?_of_mem (eF.1 hb);rw [wK hnd' hi,wK hnd' hj]at hab;cases hab;rw [hi]at hj;cases hj;rfl
 ·obtain ⟨x,y,h1,h2,h3,h4⟩:=ET ht (qZ hk);exact ⟨x,y,h1,h2,by rw [qV];exact h3,h4⟩
 ·by_cases hex:∃ i id,ids[i]? = some id∧id' = .b i
  ·obtain ⟨i,id,hi,rfl⟩:=hex;have hiB:i<B.length:=by rw [hlen];exact (List.getElem?_eq_some_iff.1 hi).1
   have hb:=hat i id B[i] hi (List.getElem?_eq_getElem hiB);have hmem:fV ids id=true:=eF.2 (List.mem_of_getElem? hi)
   rcases hb with ⟨o,o1,g1,g2,g3,g4⟩ | ⟨g1,g2⟩
   ·refine .inl ⟨id,o,o1,hmem,wK hnd' hi,g1,g2,KO g3,?_⟩;show B[i]? = _
    rw [List.getElem?_eq_getElem hiB,g4]
   ·refine .inr ⟨fun id2 h2 e2=>?_,.inr ?_⟩
    ·obtain ⟨j,hj⟩:=List.getElem?_of_mem (eF.1 h2);rw [wK hnd' hj]at e2;cases e2;rw [hi]at hj;cases hj;exact g1
    ·obtain ⟨e,get,g3,g4⟩:=g2;refine ⟨e,get,?_,g4⟩;show B[i]? = _
     rw [List.getElem?_eq_getElem hiB,g3]
  ·refine .inr ⟨fun id2 h2 e2=>?_,.inl ?_⟩
   ·obtain ⟨j,hj⟩:=List.getElem?_of_mem (eF.1 h2);rw [wK hnd' hj]at e2;exact absurd ⟨j,id2,hj,e2.symm⟩ hex
   ·cases id' with
    | s a b=>rfl
    | b j =>
     show B[j]? = none;rw [List.getElem?_eq_none_iff];apply Nat.le_of_not_lt;intro hlt;rw [hlen]at hlt;exact hex ⟨j,ids[j],List.getElem?_eq_getElem hlt,rfl⟩
end
end Go.Ab
namespace Go.Ab
section
variable {P:Program} {T:Nat→TI} {N:Nat}
theorem yL (hT:TOK P T N) {nt:Nat} {st:St} (F:List (Id×Nat)) (ids:List Id) {ts:List (Nat×AV)} {B:List Ob} {rs:List ResultVar} {r:AV} {l:List AV} (hF:Nz st F) (hnd:distinct ids=true) (ht:LY T st F ids ts) (hm:LZ T st F ids ids B) (hl:BG T (aP ts (mkB 0 B)) rs=some (l,none)) (hr:r=resV l):Fin T N nt 0 rs r B st:=by
 refine ⟨ts,?_,(l,none),hl,trivial,hr⟩;have h:=Ent.toB hT (nt:=nt) F ids hF hnd ht hm
 have e:aP ts (mkB 0 B)=PL (fun k=>kF k ts) (ofB B):=by
  rw [Oy,yD]
 rw [e];exact h
end
open Go.Proofs
section
variable {P:Program} {T:Nat→TI} {N:Nat}
theorem fH (hT:TOK P T N) {nt k j t:Nat} {st:St} {y:AV} {B:Blk} (h:st.t k=some (.always,.ptr (.s j 0) 1 0 [])) (hm:st.m (.s j 0)=some (.cells B)) (hty:B.ty=t) (hn:B.n=1) (hfz:B.fz=0) (hy:Conv st.m (fun id=>eH id []) T (B.get 0) y) (hno:dw y=true) (hok:dM [.s j 0] y=true) (hnt:mJ y=true):Fin T N nt 0 [.cell k t] y [] st:=by
 obtain ⟨ty,n,get,fz⟩:=B;simp only at hty hn hfz hy;subst hty hn hfz;refine Fin.ent (Ent.mk (P:=P) hT [] (ts:=[(k,.ptr (.s j 0) 1 0 [])]) (ms:=[(.s j 0,.cells ⟨ty,1,fun _=>y,0⟩)]) trivial ⟨⟨by simp [dM,fV,aN],_,h,ah rfl⟩,tt⟩ ⟨⟨fun _ _=>hok,.inl ⟨_,hm,_,_,rfl,Nat.le_refl _,Nat.zero_le _,Nat.zero_le _,fun q hq=>?_⟩⟩,tt⟩ rfl) ?_
 ·obtain rfl:q=0:=by simp at hq;exact hq
  exact hy
 ·have h1:(aP [(k,AV.ptr (.s j 0) 1 0 [])] [(.s j 0,Ob.cells ⟨ty,1,fun _=>y,0⟩)]).m (.s j 0)=some (.cells ⟨ty,1,fun _=>y,0⟩):=by simp [aP,kC,aN]
  have h2:(aP [(k,AV.ptr (.s j 0) 1 0 [])] [(.s j 0,Ob.cells ⟨ty,1,fun _=>y,0⟩)]).t k=some (.always,.ptr (.s j 0) 1 0 []):=by simp [aP,kF]
  refine aH hT [(.s j 0,1)] (ts:=[(k,.rp ty y)]) (l:=[y]) ⟨⟨_,h1,Nat.le_refl _⟩,tt⟩ ⟨⟨rfl,_,h2,?_⟩,tt⟩ trivial rfl ?_ rfl
  ·exact eY h1 rfl (by simp [eH,aN]) rfl (by show y.at []=y;cases y <;> rfl) hno
  ·simp [BG,aP,kF,ldA,nOf,hnt,fG]
theorem jG {α β:Type} {f g:α→List β}:∀ {l:List α},(∀ a∈l,f a=g a)→l.flatMap f=l.flatMap g
 | [],_=>rfl
 | a::r,h=>by
  rw [List.flatMap_cons,List.flatMap_cons,h a (List.mem_cons_self ..),jG (fun b hb=>h b (List.mem_cons_of_mem _ hb))]
def Gj (T:Nat→TI) (F:AV→Option (List Value)):List Nat→Nat→(Nat→AV)→Option (List Value)
 | [],_,_=>some []
 | u::r,i,g=>bif fit T u (g i)then (F (g i)).bind fun l=>bif Nat.beq l.length (T u).size then (Gj T F r (i+1) g).bind fun m=>some (l++m)else none else none
def AX (T:Nat→TI) (N:Nat):Nat→AV→Option (List Value)
 | 0,_=>none
 | _+1,.v x=>bif kK x then some [x]else none
 | f+1,.agg t n get=>match (T t).kind with
  | .struct fs=>bif Nat.beq fs.length n&&Nat.blt t N then Gj T (AX T N f) fs 0 get else none
  | .array k e=>bif Nat.beq k n&&Nat.blt t N then Gj T (AX T N f) (List.replicate n e) 0 get else none
  | _=>none
 | _+1,_=>none
theorem rC {F:AV→Option (List Value)}:∀ {fs:List Nat} {i:Nat} {g:Nat→AV} {l:List Value},Gj T F fs i g=some l →
 (∀ j u,fs[j]? = some u→fit T u (g (i+j))=true ∧ ∃ lj,F (g (i+j))=some lj∧lj.length=(T u).size)∧l=(List.range fs.length).flatMap (fun j=>(F (g (i+j))).getD [])
 | [],i,g,l,h=>by
  cases h;exact ⟨fun j u h=>by simp at h,rfl⟩
 | u::r,i,g,l,h=>by
  rw [Gj]at h;cases hf:fit T u (g i)with
  | false=>rw [hf]at h;cases h
  | true =>
   rw [hf,cond_true]at h;cases hF:F (g i)with
   | none=>rw [hF]at h;cases h
   | some l1 =>
    rw [hF]at h;simp only [Option.bind_some]at h;cases hl:Nat.beq l1.length (T u).size with
    | false=>rw [hl]at h;cases h
    | true =>
     rw [hl,cond_true]at h;cases hr:Gj T F r (i+1) g with
     | none=>rw [hr]at h;cases h
     | some m =>
      rw [hr]at h;simp only [Option.bind_some,Option.some.injEq]at h;subst h;obtain ⟨h1,h2⟩:=rC hr;refine ⟨fun j v hj=>?_,?_⟩
      ·cases j with
       | zero =>
        simp at hj;subst hj;exact ⟨hf,l1,hF,Nat.eq_of_beq_eq_true hl⟩
       | succ j =>
        have:=h1 j v (by simpa using hj)
        rwa [show i+1+j=i+(j+1) by omega]at this
      ·rw [List.length_cons,List.range_succ_eq_map,List.flatMap_cons,List.flatMap_map,h2];simp only [Nat.add_zero,hF,Option.getD_some];congr 1;refine jG ?_;intro j _;rw [show i+1+j=i+(j+1) by omega]
theorem EO:∀ {f:Nat} {x:AV} {l:List Value},AX T N f x=some l→(∀ I ρ,Rep T N I ρ x l) ∧ ∀ I ρ cs,Rep T N I ρ x cs→cs=l:=by
 intro f
 induction f with
 | zero=>intro x l h;cases h
 | succ f ih =>
  intro x l h
  match x with
  | .v y =>
   rw [AX]at h;cases hp:kK y with
   | false=>rw [hp]at h;cases h
   | true =>
    rw [hp,cond_true,Option.some.injEq]at h;subst h;exact ⟨fun I ρ => .v hp,fun I ρ cs hr=>by cases hr;rfl⟩
  | .agg t n get =>
   rw [AX]at h;split at h
   ·rename_i fs hk;cases hc:(Nat.beq fs.length n&&Nat.blt t N)with
    | false=>rw [hc]at h;cases h
    | true =>
     rw [hc,cond_true]at h;simp only [Bool.and_eq_true]at hc;have hn:=Nat.eq_of_beq_eq_true hc.1
     have ht:t<N:=by simpa [Nat.blt_eq]using hc.2
     obtain ⟨h1,h2⟩:=rC h;simp only [Nat.zero_add]at h1 h2;subst hn h2;refine ⟨fun I ρ => .struct fs _ hk rfl ht (fun i u hi=>?_) (fun i u hi=>(h1 i u hi).1) (fun i u hi=>?_),fun I ρ cs hr=>?_⟩
     ·obtain ⟨_,l1,e,_⟩:=h1 i u hi;simp only [e,Option.getD_some];exact (ih e).1 I ρ
     ·obtain ⟨_,l1,e,e2⟩:=h1 i u hi;simp only [e,Option.getD_some];exact e2
     ·cases hr with
      | struct fs' segs hk' hn' ht' h' hf' hl' =>
       rw [hk]at hk';cases hk';refine jG ?_;intro i hi;have hi':i<fs.length:=by simpa using hi
       obtain ⟨_,l1,e,_⟩:=h1 i _ (List.getElem?_eq_getElem hi');simp only [e,Option.getD_some];exact (ih e).2 I ρ _ (h' i _ (List.getElem?_eq_getElem hi'))
      | array e segs hk' ht' h' hf' hl'=>rw [hk]at hk';cases hk'
   ·rename_i k e hk;cases hc:(Nat.beq k n&&Nat.blt t N)with
    | false=>rw [hc]at h;cases h
    | true =>
     rw [hc,cond_true]at h;simp only [Bool.and_eq_true]at hc;have hn:=Nat.eq_of_beq_eq_true hc.1
     have ht:t<N:=by simpa [Nat.blt_eq]using hc.2
     obtain ⟨h1,h2⟩:=rC h;simp only [Nat.zero_add,List.length_replicate]at h1 h2;have h3:∀ i,i<n→fit T e (get i)=true ∧ ∃ lj,AX T N f (get i)=some lj∧lj.length=(T e).size:=fun i hi=>h1 i e (by simp [hi])
     subst hn h2;refine ⟨fun I ρ => .array e _ hk ht (fun i hi=>?_) (fun i hi=>(h3 i hi).1) (fun i hi=>?_),fun I ρ cs hr=>?_⟩
     ·obtain ⟨_,l1,e,_⟩:=h3 i hi;simp only [e,Option.getD_some];exact (ih e).1 I ρ
     ·obtain ⟨_,l1,e,e2⟩:=h3 i hi;simp only [e,Option.getD_some];exact e2
     ·cases hr with
      | struct fs' segs hk' hn' ht' h' hf' hl'=>rw [hk]at hk';cases hk'
      | array e segs hk' ht' h' hf' hl' =>
       rw [hk]at hk';cases hk';refine jG ?_;intro i hi;obtain ⟨_,l1,e,_⟩:=h3 i (by simpa using hi);simp only [e,Option.getD_some];exact (ih e).2 I ρ _ (h' i (by simpa using hi))
   ·cases h
  | .tup _ | .row .. | .own .. | .arr .. | .ptr .. | .rp .. | .clo .. | .mp _=>simp [AX]at h
end
section
variable {α:Type} {d:α}
end
section
variable {P:Program} {T:Nat→TI} {N:Nat}
theorem vP {w:World} {base:Nat} {a:Addr} {n:Nat} {cs:List Value} (h:w.cells? base a n=some cs) (hn:0<n):a.spot=none:=by
 obtain ⟨_,h2⟩:=rF h;have h3:=h2 0 hn
 have hl:0<cs.length:=by rw [(rF h).1];exact hn
 rw [List.getElem?_eq_getElem hl,show a.add 0=a from rfl]at h3;unfold World.cell? at h3;split at h3
 ·split at h3
  ·cases h3
  ·rename_i hs;simpa using hs
 ·cases h3
theorem Dec.slice (hT:TOK P T N) {t e:Nat} {α:Type} {enc:α→AV} {Q:α→Prop} (d0:α) (hu:P.underlying t=some (.slice e)) (hk:(T t).kind.isAgg=false) (he:e<N) (hd:Dec P T N e enc Q):Dec P T N t (Rf e enc d0 false) (fun l => ∀ a∈l,Q a):=by
 intro H eh w fuel cs d ps hr;have hfit:∀ l,fit T t (Rf e enc d0 false l)=true:=fun l=>by
  show (!(T t).kind.isAgg)=true;rw [hk];rfl
 cases fuel with
 | zero=>simp [DataW.trod]at hr
 | succ fuel =>
 unfold DataW.trod at hr;rw [hu]at hr;have hsz:=hT.cellsOf he
 have hpos:=hT.size_pos he;obtain ⟨v,rfl⟩:∃ v,cs=[v]:=by
  rcases cs with _ | ⟨v,_ | ⟨u,r⟩⟩
  ·simp at hr
  ·exact ⟨v,rfl⟩
  ·simp at hr
 cases v <;> try (simp at hr;done)
 rename_i a len cap;cases a with
 | none =>
  have h0:len=0∧cap=0:=by
   cases len <;> cases cap <;> simp_all
  obtain ⟨rfl,rfl⟩:=h0;exact ⟨[],fun a ha=>by simp at ha,.row0 he,hfit _⟩
 | some a =>
  simp only [Option.ite_none_right_eq_some,if_true,Option.bind_eq_some_iff,Option.map_eq_some_iff]at hr;obtain ⟨⟨_,h1,hmax⟩,elems,hel,rest,hrest,_⟩:=hr;have hcap:cap<2 ^ 63:=by
   unfold maxLen at hmax;omega
  rcases Nat.eq_zero_or_pos cap with hc0 | hc0
  ·subst hc0;obtain rfl:len=0:=by omega
   exact ⟨[],fun a ha=>by simp at ha,.row0 he,hfit _⟩
  ·have hspot:a.spot=none:=by
    rcases Nat.eq_zero_or_pos len with hl0 | hl0
    ·subst hl0;obtain ⟨_,hat⟩:=mapM_at hrest;obtain ⟨y,_,h6⟩:=hat 0 0 (by simp [hc0]);simp only [Option.bind_eq_some_iff]at h6;obtain ⟨seg,h7,_⟩:=h6;have h8:=vP h7 (by rw [hsz];exact hpos)
     simpa [Addr.add]using h8
    ·obtain ⟨_,hat⟩:=mapM_at hel;obtain ⟨y,_,h6⟩:=hat 0 0 (by simp [hl0]);simp only [Option.bind_eq_some_iff]at h6;obtain ⟨seg,h7,_⟩:=h6;have h8:=vP h7 (by rw [hsz];exact hpos)
     simpa [Addr.add]using h8
   obtain ⟨b,off,spot⟩:=a;simp only at hspot;subst hspot;obtain ⟨hlen,hat⟩:=mapM_at hel;have hex:∀ i,∃ (a:α) (seg:List Value),i<len→Q a∧Rep T N (sK w) iI (enc a) seg∧fit T e (enc a)=true∧seg.length=(T e).size ∧ ∀ o,o<(T e).size→sK w b (off+(i*(T e).size+o))=seg[o]? := by
    intro i;by_cases hi:i<len
    ·obtain ⟨y,h5,h6⟩:=hat i i (by simp [hi]);simp only [Option.bind_eq_some_iff]at h6;obtain ⟨seg,h7,h8⟩:=h6;obtain ⟨a,q1,q2,q3⟩:=hd H eh w fuel seg y.1 y.2 h8;obtain ⟨c1,c2⟩:=rF h7;rw [hsz]at c1 c2;refine ⟨a,seg,fun _=>⟨q1,q2,q3,c1,fun o ho=>?_⟩⟩;rw [← c2 o ho];simp only [sK,fA,Nat.add_assoc]
    ·exact ⟨d0,[],fun h=>absurd h hi⟩
   have hch:=fun i=>Classical.choose_spec (Classical.choose_spec (hex i));generalize hA:(fun i=>Classical.choose (hex i))=A at hch;have hA':∀ i,Classical.choose (hex i)=A i:=fun i=>congrFun hA i
   refine ⟨(List.range len).map A,fun a ha=>?_,?_,hfit _⟩
   ·simp only [List.mem_map,List.mem_range]at ha;obtain ⟨i,hi,rfl⟩:=ha;have:=(hch i hi).1
    rwa [hA']at this
   ·have hg:∀ i,i<len→((List.range len).map A).getD i d0=A i:=fun i hi=>by simp [hi]
    have:=Rep.row (T:=T) (N:=N) (I:=sK w) (ρ:=iI) (e:=e) (full:=false) (len:=((List.range len).map A).length) (get:=fun i=>enc (((List.range len).map A).getD i d0)) b off cap (fun i=>Classical.choose (Classical.choose_spec (hex i))) he (by simpa using h1) hcap (fun h=>by cases h)
     (
      fun i hi=>by
      have hi':i<len:=by simpa using hi
      rw [hg i hi',← hA'];exact (hch i hi').2.1)
     (
      fun i hi=>by
      have hi':i<len:=by simpa using hi
      rw [hg i hi',← hA'];exact (hch i hi').2.2.1)
     (fun i hi=>(hch i (by simpa using hi)).2.2.2.1)
     (fun i hi o ho=>(hch i (by simpa using hi)).2.2.2.2 o ho)
    simpa [Rf]using this
theorem wV (hT:TOK P T N) {t:Nat} {fs:List Nat} (hk:(T t).kind = .struct fs) {w:World} {r:Reach} {base:Nat} {v:Value} (h:Value.okWide P w r base t v):∃ cs,v = .agg cs:=by
 have htN:=hT.lt (t:=t) (by rw [hk];simp);obtain ⟨dd,hd1,hd2,hd3⟩:=hT.und t htN;rw [hk]at hd2;cases dd <;> simp only [kindOf,reduceCtorEq,TK.struct.injEq]at hd2
 unfold Value.okWide at h;rw [hd1]at h;obtain ⟨cs,h1,_⟩:=h;exact ⟨cs,h1⟩
end
section
variable {R:Option Nat→Bool→Prop} {P:Program} {T:Nat→TI} {N nt nb:Nat} {post:Post} {st:St}
theorem sq {x y:Code} (h:WP R P T N nt nb x (J7 (WP R P T N nt nb y post) post) st):WP R P T N nt nb (.seq x y) post st:=WP.seq h
theorem bk {id:Nat} {c:Code} (h:WP R P T N nt nb c (QU id post) st):WP R P T N nt nb (.block id c) post st:=WP.block h
theorem sk (h:post .normal st):WP R P T N nt nb .skip post st:=WP.skip h
theorem xt {id:Nat} (h:post (.exit id) st):WP R P T N nt nb (.exit id) post st:=WP.exit h
theorem cd {c:Operand} {x y:Code} {b:Bool} (hc:ev st c=some (.always,.v (.bool b))) (ht:b=true→WP R P T N nt nb x post st) (hf:b=false→WP R P T N nt nb y post st):WP R P T N nt nb (.cond c x y) post st:=WP.cond hc ht hf
theorem cvt {m:Id→Option Ob} {F:Id→Nat} {x y:AV} (h:x=y:=by first | rfl | (rw [cu (by omega) (by omega)];simp;done) | (simp;done)):Conv m F T x y:=ah h
theorem all_succ {Q:Nat→Prop} {i:Nat} (hn:∀ j,j<i→Q j) (h:Q i):∀ j,j<i+1→Q j:=fun j hj=>by
 rcases Nat.lt_or_ge j i with h1 | h1
 ·exact hn j h1
 ·obtain rfl:j=i:=by omega
  exact h
theorem cq {Q:Prop} (h:Q:=by refine ⟨rfl,_,rfl,?_⟩;exact cvt):Q:=h
theorem au {Q:Prop} (h:Q:=by
 simp only [aj,under,CG.pure]
 repeat' with_reducible refine And.intro ?_ ?_
 all_goals (try with_reducible intros)
 all_goals (first | exact trivial | assumption | omega | (simp;done) | grind)):Q:=h
theorem obs {st:St} {F:List (Id×Nat)} {keep:List Id} {id:Id} {B:Blk} {ty n:Nat} {get:Nat→AV} {X:Prop} (hm:st.m id=some (.cells B)) (ht:B.ty=ty:=by rfl) (hn:B.n=n:=by rfl) (hz:B.fz=0:=by rfl) (hF:eH id F=0:=by rfl) (hok:∀ i,i<n→dM keep (get i)=true:=by exact fun _ _=>rfl)
 (hg:∀ q,q<n→Conv st.m (fun id=>eH id F) T (B.get q) (get q):=by exact fun q hq=>by first | exact ah rfl | (obtain rfl:q=0:=(by simp at hq;exact hq);exact ah rfl)) :
 okO keep (.cells ⟨ty,n,get,0⟩)∧((∃ o',st.m id=some o'∧ObC st.m (fun id=>eH id F) T (eH id F) o' (.cells ⟨ty,n,get,0⟩))∨X):=by
 obtain ⟨ty',n',get',fz⟩:=B;simp only at ht hn hz hg;subst ht hn hz;exact ⟨hok,.inl ⟨_,hm,get,0,rfl,Nat.le_refl _,by rw [hF];exact Nat.le_refl _,Nat.zero_le _,hg⟩⟩
end
end Go.Ab
