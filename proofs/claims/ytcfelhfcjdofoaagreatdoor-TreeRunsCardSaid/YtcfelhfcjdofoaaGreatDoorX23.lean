/- Part 24 of a proof of a statement about the given program: an abstract machine over the model, proved sound, and contracts of the functions that the statement reaches; the last part proves the statement, for every input, with no condition. -/
import Derived.Test.YtcfelhfcjdofoaaGreatDoorX22
import Derived.Test.YtcfelhfcjdofoaaGreatDoorX20
import Derived.Test.YtcfelhfcjdofoaaGreatDoorX13
import Derived.Test.YtcfelhfcjdofoaaGreatDoorX21
set_option autoImplicit false
set_option linter.unusedSimpArgs false
set_option linter.unusedVariables false
set_option maxRecDepth 20000
namespace Go.Ab
open Go.Proofs
theorem VU {n:Int} (h:Rng n):inW n:=h
theorem WU {p:ay} (h:I9 p):FT p:=⟨fun v hv=>VU (h.1 v hv),fun f hf x hx=>VU ((h.2.2.2 f hf).2.2.1 x hx).2.2.2.2⟩
section
variable {P:Program} {T:Nat→TI} {N:Nat}
abbrev wOK {H:Type} (P:Program) (t:Nat) (d:DataW H):Prop:=(d.weights P t).all (· ≤ reachBytes)=true
def BI (P:Program) (T:Nat→TI) (N:Nat) (t:Nat) {α:Type} (enc:α→AV) (Q:α→Prop):Prop :=
 ∀ (H:Type) (eh:TypeId×Value→H) (w:World) (fuel:Nat) (cs:List Value) (d:DataW H) (ps:List MemPlace),DataW.trod eh P w 0 (fun _=>true) true fuel t cs=some (d,ps)→wOK P t d → ∃ a,Q a∧Rep T N (uM w) jA (enc a) cs∧fit T t (enc a)=true
theorem Dec.toW {t:Nat} {α:Type} {enc:α→AV} {Q:α→Prop} (h:Dec P T N t enc Q):BI P T N t enc Q:=fun H eh w fuel cs d ps hr _=>h H eh w fuel cs d ps hr
theorem BI.map {t:Nat} {α β:Type} {enc:α→AV} {enc':β→AV} {Q:α→Prop} {Q':β→Prop} (h:BI P T N t enc Q) (f:α→β) (he:∀ a,enc' (f a)=enc a) (hq:∀ a,Q a→Q' (f a)):BI P T N t enc' Q':=fun H eh w fuel cs d ps hr hw=>by
 obtain ⟨a,h1,h2,h3⟩:=h H eh w fuel cs d ps hr hw;exact ⟨f a,hq a h1,by rw [he];exact h2,by rw [he];exact h3⟩
theorem weightsAll_mem {H:Type} {e:Nat}:∀ {l:List (DataW H)},(DataW.weightsAll P e l).all (· ≤ reachBytes)=true → ∀ d∈l,wOK P e d
 | [],_,d,hd=>by cases hd
 | x::r,h,d,hd=>by
  simp only [DataW.weightsAll,List.all_append,Bool.and_eq_true]at h;cases hd with
  | head=>exact h.1
  | tail _ hd=>exact weightsAll_mem h.2 d hd
theorem oJ {H:Type}:∀ {ts:List Nat} {l:List (DataW H)},(DataW.weightsEach P ts l).all (· ≤ reachBytes)=true → ∀ (i u:Nat) (d:DataW H),ts[i]? = some u→l[i]? = some d→wOK P u d
 | [],l,_,i,u,d,hu,_=>by simp at hu
 | t::ts,[],_,i,u,d,_,hd=>by simp at hd
 | t::ts,x::r,h,i,u,d,hu,hd=>by
  simp only [DataW.weightsEach,List.all_append,Bool.and_eq_true]at h;cases i with
  | zero=>simp at hu hd;subst hu hd;exact h.1
  | succ i=>exact oJ h.2 i u d (by simpa using hu) (by simpa using hd)
theorem BI.slice (hT:TOK P T N) {t e:Nat} {α:Type} {enc:α→AV} {Q:α→Prop} (d0:α) (hu:P.underlying t=some (.slice e)) (hk:(T t).kind.isAgg=false) (he:e<N) (hd:BI P T N e enc Q):BI P T N t (Yi e enc d0 false) (fun l=>l.length*P.bytesOf e≤reachBytes ∧ ∀ a∈l,Q a):=by
 intro H eh w fuel cs d ps hr hwt;have hfit:∀ l,fit T t (Yi e enc d0 false l)=true:=fun l=>by
  show (!(T t).kind.isAgg)=true;rw [hk];rfl
 cases fuel with
 | zero=>simp [DataW.trod]at hr
 | succ fuel =>
 unfold DataW.trod at hr;rw [hu]at hr;have hsz:=hT.cellsOf he
 have hpos:=hT.size_pos he;obtain ⟨v,rfl⟩:∃ v,cs=[v]:=by
  rcases cs with _ | ⟨v,_ | ⟨u,r⟩⟩
  ·simp at hr
  ·exact ⟨v,rfl⟩
  ·simp at hr
 cases v <;> try (simp at hr;done)
 rename_i a len cap;cases a with
 | none =>
  have h0:len=0∧cap=0:=by
   cases len <;> cases cap <;> simp_all
  obtain ⟨rfl,rfl⟩:=h0;exact ⟨[],⟨by simp,fun a ha=>by simp at ha⟩,.row0 he,hfit _⟩
 | some a =>
  simp only [Option.ite_none_right_eq_some,if_true,Option.bind_eq_some_iff,Option.map_eq_some_iff]at hr;obtain ⟨⟨_,h1,hmax⟩,elems,hel,rest,hrest,hdd⟩:=hr;have hcap:cap<2 ^ 63:=by
   unfold maxLen at hmax;omega
  rcases Nat.eq_zero_or_pos cap with hc0 | hc0
  ·subst hc0;obtain rfl:len=0:=by omega
   exact ⟨[],⟨by simp,fun a ha=>by simp at ha⟩,.row0 he,hfit _⟩
  ·have hspot:a.spot=none:=by
    rcases Nat.eq_zero_or_pos len with hl0 | hl0
    ·subst hl0;obtain ⟨_,hat⟩:=mapM_at hrest;obtain ⟨y,_,h6⟩:=hat 0 0 (by simp [hc0]);simp only [Option.bind_eq_some_iff]at h6;obtain ⟨seg,h7,_⟩:=h6;have h8:=qI h7 (by rw [hsz];exact hpos)
     simpa [Addr.add]using h8
    ·obtain ⟨_,hat⟩:=mapM_at hel;obtain ⟨y,_,h6⟩:=hat 0 0 (by simp [hl0]);simp only [Option.bind_eq_some_iff]at h6;obtain ⟨seg,h7,_⟩:=h6;have h8:=qI h7 (by rw [hsz];exact hpos)
     simpa [Addr.add]using h8
   obtain ⟨b,off,spot⟩:=a;simp only at hspot;subst hspot;obtain ⟨hlen,hat⟩:=mapM_at hel;simp only [Prod.mk.injEq]at hdd;obtain ⟨rfl,_⟩:=hdd;unfold wOK at hwt;simp only [DataW.weights,hu,List.all_cons,List.all_append,Bool.and_eq_true,decide_eq_true_eq,List.length_map]at hwt;have hbytes:len*P.bytesOf e≤reachBytes:=by
    have h9:=hwt.1;rw [List.length_range]at hlen;rw [hlen,Nat.add_mul]at h9;omega
   have hall:=weightsAll_mem hwt.2.1;have hex:∀ i,∃ (a:α) (seg:List Value),i<len→Q a∧Rep T N (uM w) jA (enc a) seg∧fit T e (enc a)=true∧seg.length=(T e).size ∧ ∀ o,o<(T e).size→uM w b (off+(i*(T e).size+o))=seg[o]? := by
    intro i;by_cases hi:i<len
    ·obtain ⟨y,h5,h6⟩:=hat i i (by simp [hi]);simp only [Option.bind_eq_some_iff]at h6;obtain ⟨seg,h7,h8⟩:=h6;obtain ⟨a,q1,q2,q3⟩:=hd H eh w fuel seg y.1 y.2 h8 (hall _ (List.mem_map.2 ⟨y,List.mem_of_getElem? h5,rfl⟩));obtain ⟨c1,c2⟩:=ug h7;rw [hsz]at c1 c2;refine ⟨a,seg,fun _=>⟨q1,q2,q3,c1,fun o ho=>?_⟩⟩;rw [← c2 o ho];simp only [uM,gU,Nat.add_assoc]
    ·exact ⟨d0,[],fun h=>absurd h hi⟩
   have hch:=fun i=>Classical.choose_spec (Classical.choose_spec (hex i));generalize hA:(fun i=>Classical.choose (hex i))=A at hch;have hA':∀ i,Classical.choose (hex i)=A i:=fun i=>congrFun hA i
   refine ⟨(List.range len).map A,⟨by simpa using hbytes,fun a ha=>?_⟩,?_,hfit _⟩
   ·simp only [List.mem_map,List.mem_range]at ha;obtain ⟨i,hi,rfl⟩:=ha;have:=(hch i hi).1
    rwa [hA']at this
   ·have hg:∀ i,i<len→((List.range len).map A).getD i d0=A i:=fun i hi=>by simp [hi]
    have:=Rep.row (T:=T) (N:=N) (I:=uM w) (ρ:=jA) (e:=e) (full:=false) (len:=((List.range len).map A).length) (get:=fun i=>enc (((List.range len).map A).getD i d0)) b off cap (fun i=>Classical.choose (Classical.choose_spec (hex i))) he (by simpa using h1) hcap (fun h=>by cases h)
     (
      fun i hi=>by
      have hi':i<len:=by simpa using hi
      rw [hg i hi',← hA'];exact (hch i hi').2.1)
     (
      fun i hi=>by
      have hi':i<len:=by simpa using hi
      rw [hg i hi',← hA'];exact (hch i hi').2.2.1)
     (fun i hi=>(hch i (by simpa using hi)).2.2.2.1)
     (fun i hi o ho=>(hch i (by simpa using hi)).2.2.2.2 o ho)
    simpa [Yi]using this
def qJ (P:Program) (T:Nat→TI) (N:Nat) (fs:List Nat) {β:Type} (encL:β→List AV) (Q:β→Prop):Prop :=
 ∀ (H:Type) (eh:TypeId×Value→H) (w:World) (fuel:Nat) (cs:Nat→List Value),(∀ (i u:Nat),fs[i]? = some u → ∃ y:DataW H×List MemPlace,DataW.trod eh P w 0 (fun _=>true) true fuel u (cs i)=some y∧wOK P u y.1) →
  ∃ b,Q b∧(encL b).length=fs.length ∧ ∀ (i u:Nat),fs[i]? = some u→Rep T N (uM w) jA ((encL b).getD i .bad) (cs i)∧fit T u ((encL b).getD i .bad)=true
theorem qJ.nil:qJ P T N [] (fun _:Unit=>[]) (fun _=>True):=fun H eh w fuel cs h=>⟨(),trivial,rfl,fun i u hi=>by simp at hi⟩
theorem qJ.cons {t:Nat} {fs:List Nat} {α β:Type} {enc:α→AV} {encL:β→List AV} {Q:α→Prop} {R:β→Prop} (hd:BI P T N t enc Q) (hl:qJ P T N fs encL R):qJ P T N (t::fs) (fun x:α×β=>enc x.1::encL x.2) (fun x=>Q x.1∧R x.2):=by
 intro H eh w fuel cs h;obtain ⟨y,hy,hyw⟩:=h 0 t rfl;obtain ⟨a,q1,q2,q3⟩:=hd H eh w fuel (cs 0) y.1 y.2 hy hyw;obtain ⟨b,r1,r2,r3⟩:=hl H eh w fuel (fun i=>cs (i+1)) (fun i u hi=>h (i+1) u (by simpa using hi));refine ⟨(a,b),⟨q1,r1⟩,by simp [r2],fun i u hi=>?_⟩;cases i with
 | zero=>simp at hi;subst hi;exact ⟨q2,q3⟩
 | succ i=>simpa using r3 i u (by simpa using hi)
theorem BI.struct (hT:TOK P T N) {t:Nat} {fs:List Nat} {β:Type} {encL:β→List AV} {Q:β→Prop} (hk:(T t).kind = .struct fs) (hl:qJ P T N fs encL Q):BI P T N t (fun b=>cu t (encL b)) Q:=by
 intro H eh w fuel cs d ps hr hwt;have htN:=hT.lt (t:=t) (by rw [hk];simp)
 obtain ⟨dd,hd1,hd2,hd3⟩:=hT.und t htN;rw [hk]at hd2;cases dd <;> simp only [kindOf,reduceCtorEq,TK.struct.injEq]at hd2
 rename_i flds;cases fuel with
 | zero=>simp [DataW.trod]at hr
 | succ fuel =>
  unfold DataW.trod at hr;rw [hd1]at hr;simp only [Option.ite_none_right_eq_some,Option.map_eq_some_iff]at hr;obtain ⟨hlen,xs,hxs,hdd⟩:=hr;simp only [Prod.mk.injEq]at hdd;obtain ⟨rfl,_⟩:=hdd;unfold wOK at hwt;simp only [DataW.weights,hd1]at hwt;have heach:=oJ hwt
  obtain ⟨_,hat⟩:=mapM_at hxs;have hS:=hT.struct t fs hk
  have hszt:=hT.cellsOf htN;have hfl:∀ (i u:Nat),fs[i]? = some u → ∃ f,flds[i]? = some f∧f.type=u∧f.offset=l7 T fs i:=by
   intro i u hu;have hu':=hu
   rw [← hd2]at hu;simp only [List.getElem?_map,Option.map_eq_some_iff,Array.getElem?_toList]at hu;obtain ⟨f,h1,h2⟩:=hu;refine ⟨f,h1,h2,?_⟩;rw [← hd2];exact (hd3 flds rfl i f h1).1
  have hex:∀ (i u:Nat),fs[i]? = some u → ∃ y:DataW H×List MemPlace,DataW.trod eh P w 0 (fun _=>true) true fuel u ((cs.drop (l7 T fs i)).take ((fs.getD i 0|>T).size))=some y∧wOK P u y.1:=by
   intro i u hu;obtain ⟨f,h1,h2,h3⟩:=hfl i u hu;obtain ⟨y,hy,h4⟩:=hat i f (by simpa using h1);refine ⟨y,?_,heach i u y.1 (by rw [hd2];exact hu) (by rw [List.getElem?_map,hy];rfl)⟩;rw [h2,h3,hT.cellsOf (hS.1 u (List.mem_of_getElem? hu))]at h4;rw [show fs.getD i 0=u by simp [hu]];exact h4
  obtain ⟨b,q1,q2,q3⟩:=hl H eh w fuel (fun i=>(cs.drop (l7 T fs i)).take ((fs.getD i 0|>T).size)) hex;refine ⟨b,q1,?_,by simp [fit,cu,hk,TK.isAgg]⟩;have hcl:cs.length=l7 T fs fs.length:=by rw [hlen,hszt,hS.2]
  have hmono:∀ k,k<fs.length→l7 T fs (k+1)=l7 T fs k+(T (fs.getD k 0)).size:=fun k hk'=>by
   simp only [l7,kV];simp [hk']
  have hup:∀ j k,k+j=fs.length→l7 T fs k≤cs.length:=by
   intro j
   induction j with
   | zero=>intro k hkj;rw [hcl,← hkj];exact Nat.le_refl _
   | succ j ih =>
    intro k hkj;have h1:=ih (k+1) (by omega)
    rw [hmono k (by omega)]at h1;omega
  have hle:∀ k,k≤fs.length→l7 T fs k≤cs.length∧(List.range k).flatMap (fun i=>(cs.drop (l7 T fs i)).take ((fs.getD i 0|>T).size))=cs.take (l7 T fs k):=by
   intro k
   induction k with
   | zero=>intro _;exact ⟨hup fs.length 0 (by omega),by simp [l7,kV]⟩
   | succ k ih =>
    intro hk';have h1:=ih (by omega)
    refine ⟨hup (fs.length - (k+1)) (k+1) (by omega),?_⟩;rw [List.range_succ,List.flatMap_append,h1.2,hmono k (by omega),List.take_add];simp
  have hflat:=(hle fs.length (Nat.le_refl _)).2;rw [← hcl,List.take_length]at hflat;have:=Rep.struct (T:=T) (N:=N) (I:=uM w) (ρ:=jA) (t:=t) (n:=fs.length) (get:=fun i=>(encL b).getD i .bad) fs (fun i=>(cs.drop (l7 T fs i)).take ((fs.getD i 0|>T).size)) hk rfl htN (fun i u hu=>(q3 i u hu).1) (fun i u hu=>(q3 i u hu).2) (fun i u hu=>by
   have hi:=(List.getElem?_eq_some_iff.1 hu).1;have h1:=(hle (i+1) (by omega)).1
   rw [hmono i hi]at h1;rw [List.length_take,List.length_drop,show fs.getD i 0=u by simp [hu]]at *
   omega)
  rw [hflat]at this;simpa [cu,q2]using this
end
open Go.Proofs Go.ChangeShapes Go.WideShapes Go.ChangeAt Go.RowKit
theorem Nq:reachBytes=rb:=rfl
theorem Z9:Tryz.prog.bytesOf 215=32:=by kernel_rfl
theorem aaB:Tryz.prog.bytesOf 103=32:=by kernel_rfl
theorem aaD:Tryz.prog.bytesOf 120=40:=by kernel_rfl
theorem aaE:Tryz.prog.bytesOf 100=64:=by kernel_rfl
theorem bVar:Tryz.prog.bytesOf 116=16:=by kernel_rfl
theorem aaC:Tryz.prog.bytesOf 3=8:=by kernel_rfl
theorem X9:BI Tryz.prog T bn 103 fD (fun x=>Vw x∧WC x) :=
 (BI.struct (t:=103) hT (show (T 103).kind = .struct [101,3]from rfl) (qJ.cons (BI.slice hT EK Yv rfl (Nat.le_of_ble_eq_true rfl) Yb.toW) (qJ.cons oH.toW qJ.nil))).map (fun x=>⟨x.1,x.2.1⟩) (fun _=>rfl) (fun x hx=>⟨⟨hx.1.2,hx.2.1⟩,by have:=hx.1.1;rw [Z9,Nq]at this;exact this⟩)
theorem Ya:BI Tryz.prog T bn 100 dI (fun x=>Vy x∧YB x) :=
 (BI.struct (t:=100) hT (show (T 100).kind = .struct [3,3,97,98]from rfl) (qJ.cons oH.toW (qJ.cons oH.toW (qJ.cons (BI.slice hT qR ZJ rfl (Nat.le_of_ble_eq_true rfl) Zl.toW) (qJ.cons (BI.slice hT wL ZH rfl (Nat.le_of_ble_eq_true rfl) X9) qJ.nil))))).map (fun x=>⟨x.1,x.2.1,x.2.2.1,x.2.2.2.1⟩) (fun _=>rfl) (fun x hx=>⟨⟨hx.1,hx.2.1,hx.2.2.1.2,fun s hs=>(hx.2.2.2.1.2 s hs).1⟩,by have:=hx.2.2.1.1;rw [aaD,Nq]at this;exact this,by have:=hx.2.2.2.1.1;rw [aaB,Nq]at this;exact this,fun s hs=>(hx.2.2.2.1.2 s hs).2⟩)
theorem U0:BI Tryz.prog T bn 26 aj (fun x=>I9 x∧J6 x) :=
 (BI.struct (t:=26) hT (show (T 26).kind = .struct [22,3,23,24]from rfl) (qJ.cons (BI.slice hT RH ZG rfl (Nat.le_of_ble_eq_true rfl) decVar.toW) (qJ.cons oH.toW (qJ.cons ((BI.slice hT 0 ZI rfl (Nat.le_of_ble_eq_true rfl) oH.toW).map (enc':=fun l:List Int=>ints false l) (fun l=>l) (fun _=>rfl) (fun _ h=>h)) (qJ.cons (BI.slice hT mD ZK rfl (Nat.le_of_ble_eq_true rfl) Ya) qJ.nil))))).map (fun x=>⟨x.1,x.2.1,x.2.2.1,x.2.2.2.1⟩) (fun _=>rfl) (fun x hx=>⟨⟨hx.1.2,hx.2.1,hx.2.2.1.2,fun f hf=>(hx.2.2.2.1.2 f hf).1⟩,by have:=hx.1.1;rw [bVar,Nq]at this;exact this,by have:=hx.2.2.1.1;rw [aaC,Nq]at this;exact this,by have:=hx.2.2.2.1.1;rw [aaE,Nq]at this;exact this,fun f hf=>(hx.2.2.2.1.2 f hf).2⟩)
theorem Rt {H:Type} {eh:TypeId×Value→H} {W:World} {base:Nat} {v:Value} {d:DataW H} {p:List MemPlace} (h:DataW.Trod eh Tryz.prog W 0 (fun _=>true) true 26 v d p) (hw:wOK Tryz.prog 26 d) (hok:Value.okWide Tryz.prog W .any base 26 v):∃ x:ay,I9 x∧J6 x∧jf T bn (uM W) jA (aj x) v:=by
 obtain ⟨fuel,h⟩:=h;obtain ⟨x,⟨hq,hs⟩,hl,_⟩:=U0 H eh W fuel _ d p h hw;obtain ⟨cs,rfl⟩:=CS hT (show (T 26).kind = .struct [22,3,23,24]from rfl) hok;exact ⟨x,hq,hs,.one ⟨(Value.agg cs).cells.toList,hl,by simp [eY,aj,cu,Value.cells]⟩⟩
end Go.Ab
