/- Part 1 of a proof of a statement about the given program: an abstract machine over the model, proved sound, and contracts of the functions that the statement reaches; the last part proves the statement, for every input, with no condition. -/
import GoSem.Dispatch
import Derived.KernelRfl
set_option autoImplicit false
set_option linter.unusedSimpArgs false
set_option linter.unusedVariables false
namespace Go.Ab
theorem tt:True:=True.intro
inductive Id where
 | b (j:Nat)
 | s (k i:Nat)
 deriving DecidableEq,Repr,Inhabited
def Id.beq:Id→Id→Bool
 | .b j,.b k=>Nat.beq j k
 | .s j x,.s k y=>Nat.beq j k&&Nat.beq x y
 | _,_=>false
inductive AV where
 | v (x:Value)
 | agg (t:Nat) (n:Nat) (get:Nat→AV)
 | tup (vs:List AV)
 | row (e:Nat) (full:Bool) (len:Nat) (get:Nat→AV)
 | own (id:Id) (n i len:Nat) (cap:Option Nat)
 | arr (id:Id) (n i:Nat) (path:List Nat) (lo len hi:Nat)
 | ptr (id:Id) (n i:Nat) (path:List Nat)
 | rp (t:Nat) (x:AV)
 | clo (f:FuncId) (caps:List AV)
 | mp (id:Id)
 deriving Inhabited
@[reducible] def AV.int (n:Int):AV := .v (.int .i64 n)
@[reducible] def AV.bool (b:Bool):AV := .v (.bool b)
@[reducible] def AV.nils:AV := .v (.slice none 0 0)
def AV.bad:AV := .v (.tuple #[])
def bG (t:Nat) (l:List AV):AV := .agg t l.length (fun i=>l.getD i .bad)
def AV.at:AV→List Nat→AV
 | x,[]=>x
 | .agg _ _ get,k::p=>(get k).at p
 | _,_::_ => .bad
def AV.put:AV→List Nat→AV→AV
 | _,[],y=>y
 | .agg t n get,k::p,y => .agg t n (fun j=>bif Nat.beq j k then (get k).put p y else get j)
 | x,_::_,_=>x
inductive TK where
 | int (k:IntKind) | bool | str | other
 | slice (e:Nat) | struct (fs:List Nat) | array (n e:Nat) | ptr (e:Nat) | map (k v:Nat)
 deriving Inhabited
structure TI where
 kind:TK
 size:Nat
 bytes:Nat
 hasPtr:Bool
 eqs:Bool
 zero:AV
 glb:List Nat:=[]
 deriving Inhabited
def TK.isAgg:TK→Bool
 | .struct _ | .array _ _=>true
 | _=>false
structure Blk where
 ty:Nat
 n:Nat
 get:Nat→AV
 fz:Nat
inductive Ob where
 | cells (b:Blk)
 | map (es:List (AV×AV))
inductive D where
 | always
 | when (g:Bool)
structure St where
 t:Nat→Option (D×AV)
 m:Id→Option Ob
def Hz (f:Nat→Option (D×AV)) (k:Nat) (x:Option (D×AV)):Nat→Option (D×AV):=fun a=>bif Nat.beq a k then x else f a
def vV (f:Id→Option Ob) (k:Id) (x:Ob):Id→Option Ob:=fun a=>bif Id.beq a k then some x else f a
def St.put (st:St) (d:Option Nat) (x:D×AV):St:=match d with | some d=>{ st with t:=Hz st.t d (some x) } | none=>st
def je (m:Id→Option Ob):List (Id×Ob)→Id→Option Ob
 | []=>m
 | (i,o)::r=>je (vV m i o) r
structure R where
 v:AV
 d:List (Id×Ob)
 f:List Id
 c:Option Prop
def fG:Option Prop→Option Prop→Option Prop
 | none,c=>c
 | some a,none=>some a
 | some a,some b=>some (a∧b)
def aj:Option Prop→Prop
 | none=>True
 | some c=>c
def D.tr:D→Prop
 | .always=>True
 | .when g=>g=true
def under (G:D) (c:Prop):Prop:=match G with | .always=>c | .when g=>g=true→c
def evC:Value→Option AV
 | .bool b=>some (.v (.bool b))
 | .int k n=>some (.v (.int k n))
 | .string s=>some (.v (.string s))
 | .slice none 0 0=>some (.v (.slice none 0 0))
 | .pointer none=>some (.v (.pointer none))
 | .map none=>some (.v (.map none))
 | .nilFunc=>some (.v .nilFunc)
 | .nilIface=>some (.v .nilIface)
 | _=>none
def ev (st:St):Operand→Option (D×AV)
 | .tmp t=>st.t t
 | .const v=>(evC v).map fun a=>(.always,a)
 | .func f=>some (.always,.clo f [])
 | .global _=>none
def need (G:D) (x:Option (D×AV)):Option (AV×Option Prop) :=
 match x with
 | some (.always,a)=>some (a,none)
 | some (.when g,a)=>some (a,some (under G (g=true)))
 | none=>none
def needs (G:D) (st:St):List Operand→Option (List AV×Option Prop)
 | []=>some ([],none)
 | x::r=>(need G (ev st x)).bind fun a=>(needs G st r).bind fun l=>some (a.1::l.1,fG a.2 l.2)
def kK:Value→Bool
 | .bool _ | .int _ _ | .float _ _ | .complex _ _ _ | .string _ | .pointer none | .map none | .chan none | .nilFunc | .nilIface=>true
 | .slice none 0 0=>true
 | .func (.yield _) _ _=>true
 | _=>false
def oL:AV→Bool
 | .v x=>kK x
 | .agg _ _ _=>true
 | _=>false
def Om:AV→Bool
 | .agg _ _ _ | .tup _=>false
 | _=>true
def Ih (s:Sem Value):Option AV:=match s with | .pure x=>bif kK x then some (.v x)else none | _=>none
section
variable (T:Nat→TI)
def fit (t:Nat):AV→Bool
 | .agg u _ _=>Nat.beq u t&&(T t).kind.isAgg
 | .tup _=>false
 | _ => !(T t).kind.isAgg
def aJ:Nat→List Nat→Option Nat
 | t,[]=>some t
 | t,k::p=>match (T t).kind with
  | .struct fs=>(fs[k]?).bind fun u=>aJ u p
  | .array _ e=>aJ e p
  | _=>none
def CS (t:Nat):Option Nat→Bool
 | some u=>Nat.beq u t
 | none=>false
def vC (F:Nat→AV→AV→Option Bool):List Nat→Nat→(Nat→AV)→(Nat→AV)→Option Bool
 | [],_,_,_=>some true
 | t::r,i,g,h=>(F t (g i) (h i)).bind fun a=>(vC F r (i+1) g h).bind fun b=>some (a&&b)
def vF (F:AV→AV→Option Bool):Nat→(Nat→AV)→(Nat→AV)→Option Bool
 | 0,_,_=>some true
 | n+1,g,h=>(vF F n g h).bind fun b=>(F (g n) (h n)).bind fun a=>some (b&&a)
def iH (T:Nat→TI):Nat→Nat→AV→AV→Option Bool
 | 0,_,_,_=>none
 | f+1,t,x,y=>match (T t).kind,x,y with
  | .int _,.v (.int j a),.v (.int k b)=>bif decide (j=k)then some (a==b)else none
  | .bool,.v (.bool a),.v (.bool b)=>some (a==b)
  | .str,.v (.string a),.v (.string b)=>some (a==b)
  | .struct fs,.agg t1 _ g,.agg t2 _ h=>bif Nat.beq t1 t&&Nat.beq t2 t&&(T t).eqs then vC (iH T f) fs 0 g h else none
  | .array n e,.agg t1 _ g,.agg t2 _ h=>bif Nat.beq t1 t&&Nat.beq t2 t then vF (iH T f e) n g h else none
  | _,_,_=>none
def Bh (op:BinOp) (b:Bool):Option AV :=
 match op with
 | .eql=>some (.bool b)
 | .neq=>some (.bool (!b))
 | _=>none
def Ad (op:BinOp) (t:Nat) (x y:AV):Option AV :=
 match (T t).kind,x,y with
 | .slice _,.row _ _ n _,.v (.slice none 0 0)=>bif Nat.blt 0 n then Bh op false else none
 | .slice _,.v (.slice none 0 0),.v (.slice none 0 0)=>Bh op true
 | .slice _,.v (.slice none 0 0),.row _ _ n _=>bif Nat.blt 0 n then Bh op false else none
 | _,_,_=>none
def noC (x:Option AV):Option (AV×Option Prop):=x.bind fun a=>some (a,none)
def Bd (op:BinOp) (t:Nat) (x y:AV):Option (AV×Option Prop) :=
 match x,y with
 | .v (.int j a),.v (.int k b)=>match op with
  | .shl=>some (.v (.int j (j.wrap (a*2 ^ (min b.toNat j.bits)))),some (0≤b))
  | .shr=>some (.v (.int j (a.fdiv (2 ^ (min b.toNat j.bits)))),some (0≤b))
  | .quo=>bif decide (j=k)then some (.v (.int j (j.wrap (a.tdiv b))),some (b≠0))else none
  | .rem=>bif decide (j=k)then some (.v (.int j (a.tmod b)),some (b≠0))else none
  | op=>noC (Ih (binOp op t (.int j a) (.int k b)))
 | .v (.string a),.v (.string b)=>match op with
  | .add=>some (.v (.string (a++b)),some (a.size+b.size<2 ^ 63))
  | op=>noC (Ih (binOp op t (.string a) (.string b)))
 | .v (.bool a),.v (.bool b)=>match (T t).kind with | .bool=>noC (Bh op (a==b)) | _=>none
 | .agg t1 n g,.agg t2 k h=>(iH T 40 t (.agg t1 n g) (.agg t2 k h)).bind fun b=>noC (Bh op b)
 | x,y=>noC (Ad T op t x y)
def nC (m:Id→Option Ob) (id:Id) (n:Nat):Option Prop:=match m id with | some (.cells B)=>some (B.n=n) | _=>none
def nOf (m:Id→Option Ob):AV→Option Prop
 | .ptr id n _ _=>nC m id n
 | .own id n _ _ _=>nC m id n
 | .arr id n _ _ _ _ _=>nC m id n
 | _=>none
def su (m:Id→Option Ob) (op:BinOp) (t:Nat):AV→AV→Option (AV×Id×Option Prop)
 | .arr id n _ _ _ _ _,.v (.slice none 0 0)=>match m id,(T t).kind with
  | some (.cells B),.slice _=>(Bh op false).bind fun r=>some (r,id,some (B.n=n))
  | _,_=>none
 | _,_=>none
def ldA (m:Id→Option Ob) (t:Nat):AV→Option (AV×List Id)
 | .ptr id n i p=>match m id with
  | some (.cells B)=>bif CS t (aJ T B.ty p)then some ((B.get i).at p,[id])else none
  | _=>none
 | .rp u x=>bif Nat.beq u t then some (x,[])else none
 | _=>none
def vJ (t f:Nat) (m:Id→Option Ob):AV→Option (AV×List Id)
 | .ptr id n i p=>match m id,(T t).kind with
  | some (.cells B),.struct fs=>bif CS t (aJ T B.ty p)&&Nat.blt f fs.length then some (.ptr id n i (p++[f]),[id])else none
  | _,_=>none
 | .rp u x=>bif Nat.beq u t then (match (T t).kind with
  | .struct fs=>(fs[f]?).bind fun e=>some (.rp e (x.at [f]),[])
  | _=>none)else none
 | _=>none
def OG (t:Nat) (i:Int) (m:Id→Option Ob):AV→Option (AV×List Id×Prop)
 | .ptr id n j p=>match m id,(T t).kind with
  | some (.cells B),.array len _=>bif CS t (aJ T B.ty p)then some (.ptr id n j (p++[i.toNat]),[id],0≤i∧i<(len:Int))else none
  | _,_=>none
 | .rp u x=>match (T t).kind with
  | .array len e=>bif Nat.beq u t then some (.rp e (x.at [i.toNat]),[],0≤i∧i<(len:Int))else none
  | _=>none
 | .row e _ len g=>match (T t).kind with
  | .slice u=>bif Nat.beq e u then some (.rp e (g i.toNat),[],0≤i∧i<(len:Int))else none
  | _=>none
 | .own id n k len _=>match m id,(T t).kind with
  | some (.cells B),.slice u=>bif Nat.beq B.ty u then some (.ptr id n (i.toNat+k) [],[id],0≤i∧i<(len:Int))else none
  | _,_=>none
 | .arr id n j p lo len _=>match m id,(T t).kind with
  | some (.cells B),.slice u=>bif CS u (aJ T B.ty (p++[0]))then some (.ptr id n j (p++[lo+i.toNat]),[id],0≤i∧i<(len:Int))else none
  | _,_=>none
 | _=>none
def qF (ps:List (Nat×AV)) (x:AV):AV:=ps.foldl (fun x p=>x.put [p.1] p.2) x
def rH (t:Nat) (ps:List (Nat×AV)):Bool:=ps.all fun p=>match (T t).kind with
 | .struct fs=>match fs[p.1]? with | some u=>fit T u p.2 | none=>false
 | .array k e=>Nat.blt p.1 k&&fit T e p.2
 | _=>false
def F9 (m:Id→Option Ob) (t:Nat) (x:AV):Option (AV×List Id) :=
 match (T t).kind,x with
 | .slice _,.row _ _ n _=>some (.int n,[])
 | .slice _,.own id n _ len _=>match m id with
  | some (.cells B)=>some (.int len,[id])
  | _=>none
 | .slice _,.arr id n _ _ _ len _=>match m id with
  | some (.cells B)=>some (.int len,[id])
  | _=>none
 | .slice _,.v (.slice none 0 0)=>some (.int 0,[])
 | .str,.v (.string s)=>some (.int s.size,[])
 | _,_=>none
def byteAt (s:ByteArray) (i:Nat):Int:=((s[i]?.getD 0).toNat:Nat)
def RI:AV→AV→Option AV
 | .v (.int j a),.v (.int _ b)=>some (.v (.int j (if b<a then b else a)))
 | _,_=>none
def RJ:AV→AV→Option AV
 | .v (.int j a),.v (.int _ b)=>some (.v (.int j (if b>a then b else a)))
 | _,_=>none
def evR (st:St) (G:D) (o:Oper):Option (AV×List Id×Option Prop) :=
 match o.op with
 | .move x | .assign x=>(need G (ev st x)).bind fun a=>some (a.1,[],a.2)
 | .pick c a b=>(need G (ev st c)).bind fun c=>(ev st a).bind fun a=>(ev st b).bind fun b =>
  match c,a,b with
  | (.v (.bool c),cc),(da,.v (.bool x)),(db,.v (.bool y)) =>
   some (.v (.bool (cond c x y)),[],fG cc (fG (match da with | .always=>none | .when g=>some (under G (c=true→g=true))) (match db with | .always=>none | .when g=>some (under G (c=false→g=true)))))
  | _,_,_=>none
 | .load t x=>(need G (ev st x)).bind fun a=>(ldA T st.m t a.1).bind fun r=>some (r.1,r.2,fG a.2 (nOf st.m a.1))
 | .nilCheck x=>(need G (ev st x)).bind fun a=>match a.1 with
  | .ptr id n i p=>match st.m id with
   | some (.cells B)=>some (.ptr id n i p,[id],fG a.2 (some (B.n=n)))
   | _=>none
  | .rp t x=>some (.rp t x,[],a.2)
  | .clo f l=>some (.clo f l,[],a.2)
  | _=>none
 | .fieldAddr t x f=>(need G (ev st x)).bind fun a=>(vJ T t f st.m a.1).bind fun r=>some (r.1,r.2,fG a.2 (nOf st.m a.1))
 | .field t x f=>(need G (ev st x)).bind fun a=>match a.1,(T t).kind with
  | .agg u n g,.struct fs=>bif Nat.beq u t&&Nat.blt f fs.length then some (g f,[],a.2)else none
  | _,_=>none
 | .indexAddr t x i=>(need G (ev st x)).bind fun a=>(need G (ev st i)).bind fun i=>match i.1 with
  | .v (.int _ j)=>(OG T t j st.m a.1).bind fun r=>some (r.1,r.2.1,fG a.2 (fG i.2 (fG (nOf st.m a.1) (some (under G r.2.2)))))
  | _=>none
 | .index t x i=>(need G (ev st x)).bind fun a=>(need G (ev st i)).bind fun i=>match a.1,i.1,(T t).kind with
  | .agg u n g,.v (.int _ j),.array len e=>bif Nat.beq u t then some (g j.toNat,[],fG a.2 (fG i.2 (some (under G (0≤j∧j<(len:Int))))))else none
  | .v (.string s),.v (.int _ j),.str=>some (.v (.int .u8 (byteAt s j.toNat)),[],fG a.2 (fG i.2 (some (under G (0≤j∧j<(s.size:Int))))))
  | _,_,_=>none
 | .build t ps=>(needs G st (ps.toList.map (·.2))).bind fun l =>
  bif fit T t (T t).zero&&oL (T t).zero&&(T t).kind.isAgg&&rH T t ((ps.toList.map (·.1)).zip l.1)then some (qF ((ps.toList.map (·.1)).zip l.1) (T t).zero,[],l.2)else none
 | .binOp op t x y _=>(need G (ev st x)).bind fun a=>(need G (ev st y)).bind fun b=>match su T st.m op t a.1 b.1 with
  | some r=>some (r.1,[r.2.1],fG a.2 (fG b.2 r.2.2))
  | none=>(Bd T op t a.1 b.1).bind fun r=>some (r.1,[],fG a.2 (fG b.2 (r.2.map (under G))))
 | .unOp op t x=>(need G (ev st x)).bind fun a=>match a.1 with
  | .v x=>(Ih (Op.unary op x)).bind fun r=>some (r,[],a.2)
  | _=>none
 | .convert s d x=>(need G (ev st x)).bind fun a=>match a.1,(T s).kind,(T d).kind with
  | .v (.int _ n),.int _,.int k=>some (.v (.int k (k.wrap n)),[],a.2)
  | .v (.string x),.str,.str=>some (.v (.string x),[],a.2)
  | _,_,_=>none
 | .extract x i=>(need G (ev st x)).bind fun a=>match a.1 with
  | .tup l=>(l[i]?).bind fun r=>some (r,[],a.2)
  | _=>none
 | .makeFunc (.func f) fst cs=>match fst.toList with
  | []=>(needs G st cs.toList).bind fun l=>bif l.1.all Om then some (.clo f l.1,[],l.2)else none
  | _=>none
 | .call c=>match c.callee,c.args.toList with
  | .builtin .len,[x]=>match c.argTypes.toList with
   | [t]=>(need G (ev st x)).bind fun a=>(F9 T st.m t a.1).bind fun r=>some (r.1,r.2,fG a.2 (nOf st.m a.1))
   | _=>none
  | .builtin .min,[x,y]=>(need G (ev st x)).bind fun a=>(need G (ev st y)).bind fun b=>(RI a.1 b.1).bind fun r=>some (r,[],fG a.2 b.2)
  | .builtin .max,[x,y]=>(need G (ev st x)).bind fun a=>(need G (ev st y)).bind fun b=>(RJ a.1 b.1).bind fun r=>some (r,[],fG a.2 b.2)
  | _,_=>none
 | _=>none
mutual
def dw:AV→Bool
 | .v _=>true
 | .agg _ n get=>(List.range n).all fun i=>dw (get i)
 | .tup _=>false
 | .row .. => true
 | .own .. => false
 | .arr .. => false
 | .ptr .. => false
 | .rp .. => true
 | .clo _ caps=>Eo caps
 | .mp _=>false
def Eo:List AV→Bool
 | []=>true
 | x::r=>dw x&&Eo r
end
def xP:D→Bool
 | .always=>true
 | .when true=>true
 | .when false=>false
def site (o:Oper):Id:=match o.dst with | some d => .s d 0 | none => .s 0 0
def isNone:Option Ob→Bool
 | none=>true
 | some _=>false
def isDst (o:Oper):Bool:=match o.dst with | some _=>true | none=>false
def qR (ps:List (Nat×AV)) (z:AV):Nat→AV:=fun j=>ps.foldl (fun a p=>bif Nat.beq p.1 j then p.2 else a) z
def JU (m:Id→Option Ob) (e:Nat):AV→Option (Nat×(Nat→AV)×List Id)
 | .row u _ n g=>bif Nat.beq u e then some (n,g,[])else none
 | .own id n i len _=>match m id with
  | some (.cells B)=>bif Nat.beq B.ty e then some (len,fun j=>B.get (j+i),[id])else none
  | _=>none
 | .arr id n i p lo len _=>match m id with
  | some (.cells B)=>bif CS e (aJ T B.ty (p++[0]))then some (len,fun j=>((B.get i).at p).at [lo+j],[id])else none
  | _=>none
 | _=>none
def Rx (n:Nat) (g h:Nat→AV):Nat→AV:=fun j=>bif Nat.blt j n then g j else h (j - n)
def NZ (n:Nat) (g:Nat→AV) (x:AV):Nat→AV:=fun j=>bif Nat.beq j n then x else g j
def lZ (n k:Nat) (g h:Nat→AV):Nat→AV:=match k with | 1=>NZ n g (h 0) | _=>Rx n g h
def evW (st:St) (G:D) (o:Oper):Option R :=
 bif xP G then match o.op with
 | .alloc t=>bif Nat.blt 0 (T t).size&&oL (T t).zero&&isNone (st.m (site o))&&isDst o then
  some ⟨.ptr (site o) 1 0 [],[(site o,.cells ⟨t,1,fun _=>(T t).zero,0⟩)],[site o],none⟩else none
 | .box t x=>(need G (ev st x)).bind fun a=>bif Nat.blt 0 (T t).size&&fit T t a.1&&isNone (st.m (site o))&&isDst o then
  some ⟨.ptr (site o) 1 0 [],[(site o,.cells ⟨t,1,fun _=>a.1,0⟩)],[site o],a.2⟩else none
 | .store t x y=>(need G (ev st x)).bind fun a=>(need G (ev st y)).bind fun b=>match a.1 with
  | .ptr id n i p=>match st.m id with
   | some (.cells B)=>bif CS t (aJ T B.ty p)&&fit T t b.1 && !isDst o then
    some ⟨.bad,[(id,.cells { B with get:=fun j=>bif Nat.beq j i then (B.get i).put p b.1 else B.get j})],[id],
     fG a.2 (fG b.2 (some (B.n=n∧B.fz≤i)))⟩else none
   | _=>none
  | _=>none
 | .buildSlice t len ps=>(needs G st (ps.toList.map (·.2))).bind fun l=>match (T t).kind with
  | .slice e=>bif Nat.ble (len*(T e).size) 16777216&&oL (T e).zero&&dw (T e).zero&&Nat.blt 0 (T e).size&&isDst o &&
   ((ps.toList.map (·.1)).zip l.1).all (fun p=>Nat.blt p.1 len&&fit T e p.2&&dw p.2)then
   some ⟨.row e true len (qR ((ps.toList.map (·.1)).zip l.1) (T e).zero),[],[],l.2⟩else none
  | _=>none
 | .makeSlice t x y=>(need G (ev st x)).bind fun a=>(need G (ev st y)).bind fun b=>match a.1,b.1,(T t).kind with
  | .v (.int _ l),.v (.int _ c),.slice e=>bif oL (T e).zero&&Nat.blt 0 (T e).size&&Nat.blt 0 (T e).bytes&&isNone (st.m (site o))&&isDst o then
   some ⟨.own (site o) l.toNat 0 l.toNat none,[(site o,.cells ⟨e,l.toNat,fun _=>(T e).zero,0⟩)],[site o],fG a.2 (fG b.2 (some (0≤l∧l≤c∧c*((T e).bytes:Int)≤140737488355328)))⟩else none
  | _,_,_=>none
 | .call c=>match c.callee,c.args.toList,c.argTypes.toList with
  | .builtin .append,[x,y],[t,t']=>(need G (ev st x)).bind fun a=>(need G (ev st y)).bind fun b=>match (T t).kind with
   | .slice e=>(JU T st.m e b.1).bind fun q=>bif Nat.beq t t'&&isDst o&&Nat.blt 0 (T e).size&&Nat.blt 0 (T e).bytes&&oL (T e).zero then match a.1 with
    | .v (.slice none 0 0)=>bif isNone (st.m (site o))then
     some ⟨.own (site o) q.1 0 q.1 none,[(site o,.cells ⟨e,q.1,lZ 0 q.1 (fun _=>(T e).zero) q.2.1,0⟩)],site o::q.2.2,fG a.2 (fG b.2 (fG (nOf st.m b.1) (some (0<q.1∧q.1*(T e).bytes≤140737488355328))))⟩else none
    | .row u true n g=>bif Nat.beq u e&&isNone (st.m (site o))then
     some ⟨.own (site o) (n+q.1) 0 (n+q.1) none,[(site o,.cells ⟨e,n+q.1,lZ n q.1 g q.2.1,0⟩)],site o::q.2.2,fG a.2 (fG b.2 (fG (nOf st.m b.1) (some (0<q.1∧(n+q.1)*(T e).bytes≤140737488355328))))⟩else none
    | .own id n 0 len none=>match st.m id with
     | some (.cells B)=>bif Nat.beq B.ty e then
      some ⟨.own id (n+q.1) 0 (n+q.1) none,[(id,.cells { B with n:=n+q.1,get:=lZ n q.1 B.get q.2.1})],id::q.2.2,fG a.2 (fG b.2 (fG (nOf st.m b.1) (some (B.n=n∧len=n∧0<n+q.1∧(n+q.1)*(T e).bytes≤140737488355328))))⟩else none
     | _=>none
    | _=>none
    else none
   | _=>none
  | _,_,_=>none
 | _=>none
 else none
structure CG where
 lent:Bool
 ids:List Id
 r:AV
 out:List Ob
def CG.pure (r:AV):CG:=⟨false,[],r,[]⟩
def xX:AV→Bool
 | .v _=>true
 | .tup vs=>vs.all fun x=>match x with | .v _=>true | _=>false
 | _=>false
def En:AV→Bool
 | .tup vs=>vs.all dw
 | x=>dw x
def sQ (m:Id→Option Ob):AV→AV
 | .agg t n get => .agg t n (fun i=>bif Nat.blt i n then sQ m (get i)else .bad)
 | .own id n i len cap=>match m id with
  | some (.cells B) => .row B.ty false len (fun j=>B.get (j+i))
  | _ => .bad
 | x=>x
def dok (m:Id→Option Ob):AV→Prop
 | .agg t n get => ∀ i,i<n→dok m (get i)
 | .own id n i len cap=>match m id with
  | some (.cells B)=>B.n=n ∧ ∀ j,j<len→dw (B.get (j+i))=true
  | _=>False
 | x=>dw x=true
def IY:AV→List Id
 | .agg _ n get=>(List.range n).flatMap fun i=>IY (get i)
 | .own id _ _ _ _=>[id]
 | _=>[]
def PK (m:Id→Option Ob):AV→Option (AV×Option Prop×Bool×List Id)
 | .own id n i len _=>match m id with
  | some (.cells B)=>some (.row B.ty false len (fun j=>B.get (j+i)),some (B.n=n ∧ ∀ j,j<len→dw (B.get (j+i))=true),true,[id])
  | _=>none
 | .arr id n i p lo len hi=>match m id with
  | some (.cells B)=>(aJ T B.ty (p++[0])).bind fun e=>some (.row e false len (fun j=>((B.get i).at p).at [lo+j]),some (B.n=n ∧ ∀ j,j<len→dw (((B.get i).at p).at [lo+j])=true),true,[id])
  | _=>none
 | .tup _=>none
 | .ptr id n i p=>match m id with
  | some (.cells B)=>(aJ T B.ty p).bind fun t=>some (.rp t (sQ m ((B.get i).at p)),some (B.n=n∧dok m ((B.get i).at p)),true,id::IY ((B.get i).at p))
  | _=>none
 | x=>bif dw x then some (x,none,false,[])else none
def OO (m:Id→Option Ob):List AV→Option (List AV×Option Prop×Bool×List Id)
 | []=>some ([],none,false,[])
 | x::r=>(PK T m x).bind fun a=>(OO m r).bind fun l=>some (a.1::l.1,fG a.2.1 l.2.1,a.2.2.1||l.2.2.1,a.2.2.2++l.2.2.2)
def fV (ids:List Id) (id:Id):Bool:=ids.any (Id.beq id)
def distinct:List Id→Bool
 | []=>true
 | a::r => !fV r a&&distinct r
def sig:List Id→Nat→Id→Id
 | [],_,id=>id
 | a::r,j,id=>bif Id.beq id a then .b j else sig r (j+1) id
def tau (ids:List Id):Id→Id
 | .b j=>ids.getD j (.b j)
 | .s k i => .s k i
def bs (n:Nat):List Id:=(List.range n).map .b
mutual
def ren (σ:Id→Id):AV→AV
 | .v x => .v x
 | .agg t n get => .agg t n (fun i=>ren σ (get i))
 | .tup vs => .tup (Qe σ vs)
 | .row e full len get => .row e full len get
 | .own id n i len cap => .own (σ id) n i len cap
 | .arr id n i p lo len hi => .arr (σ id) n i p lo len hi
 | .ptr id n i p => .ptr (σ id) n i p
 | .rp t x => .rp t x
 | .clo f caps => .clo f (Qe σ caps)
 | .mp id => .mp (σ id)
def Qe (σ:Id→Id):List AV→List AV
 | []=>[]
 | x::r=>ren σ x::Qe σ r
end
mutual
def dM (ids:List Id):AV→Bool
 | .v _=>true
 | .agg _ n get=>(List.range n).all fun i=>dM ids (get i)
 | .tup vs=>uO ids vs
 | .row .. => true
 | .own id _ _ _ _=>fV ids id
 | .arr id _ _ _ _ _ _=>fV ids id
 | .ptr id _ _ _=>fV ids id
 | .rp .. => true
 | .clo _ caps=>uO ids caps
 | .mp id=>fV ids id
def uO (ids:List Id):List AV→Bool
 | []=>true
 | x::r=>dM ids x&&uO ids r
end
def iG (σ:Id→Id):Ob→Ob
 | .cells B => .cells { B with get:=fun i=>ren σ (B.get i) }
 | .map es => .map (es.map fun p=>(ren σ p.1,ren σ p.2))
def okO (ids:List Id):Ob→Prop
 | .cells B => ∀ i,i<B.n→dM ids (B.get i)=true
 | .map es => ∀ p∈es,dM ids p.1=true∧dM ids p.2=true
def lg (ids:List Id):List Ob→Prop
 | []=>True
 | x::r=>okO ids x∧lg ids r
def I5 (len:Nat):Option Nat→Bool
 | some c=>Nat.beq c len
 | none=>false
def Fe (ids:List Id) (m:Id→Option Ob):AV→Option (AV×List (Id×Ob)×Option Prop)
 | .own id n i len cap=>bif fV ids id then some (.own (sig ids 0 id) n i len cap,[],none)else match m id with
  | some (.cells B)=>some (.row B.ty (I5 len cap) len (fun j=>B.get (j+i)),[(id,.cells { B with fz:=max B.fz (i+len) })],some (B.n=n ∧ ∀ j,j<len→dw (B.get (j+i))=true))
  | _=>none
 | .tup _=>none
 | x=>bif dM ids x then some (ren (sig ids 0) x,[],none)else none
def zo (ids:List Id) (m:Id→Option Ob):List AV→Option (List AV×List (Id×Ob)×Option Prop)
 | []=>some ([],[],none)
 | x::r=>(Fe ids m x).bind fun a=>(zo ids (je m a.2.1) r).bind fun l=>some (a.1::l.1,a.2.1++l.2.1,fG a.2.2 l.2.2)
def gets (m:Id→Option Ob):List Id→Option (List Ob)
 | []=>some []
 | i::r=>(m i).bind fun o=>(gets m r).bind fun l=>some (o::l)
def sites (d:Nat):Nat→Nat→List Id
 | _,0=>[]
 | j,k+1 => .s d j::sites d (j+1) k
def Ez (g:CG):Bool:=match g.ids,g.out with | _::_,[]=>true | _,_=>false
abbrev ACT:=FuncId→List AV→List Ob→AV→List Ob→Prop
def evK (AC:ACT) (st:St) (G:D) (gs:List CG) (o:Oper):Option (R×List CG) :=
 match o.op,gs with
 | .call c,g::gs=>match c.callee with
  | .value fo=>(need G (ev st fo)).bind fun fa=>(needs G st c.args.toList).bind fun l=>match fa.1,g.lent with
   | .clo f caps,false=>(OO T st.m (l.1++caps)).bind fun a=>bif En g.r&&(!a.2.2.1||xX g.r)&&caps.all Om then
    some (⟨g.r,[],a.2.2.2,fG fa.2 (fG l.2 (fG (a.2.1.map (under G)) (some (under G (AC f a.1 [] g.r [])))))⟩,gs)else none
   | .clo f caps,true=>bif Ez g then (zo g.ids st.m (l.1++caps)).bind fun a=>(gets (je st.m a.2.1) g.ids).bind fun B =>
    bif xP G&&caps.all Om&&distinct g.ids&&dM (bs g.ids.length) g.r then
     some (⟨ren (tau g.ids) g.r,a.2.1,a.2.1.map (·.1)++g.ids,
      fG fa.2 (fG l.2 (fG a.2.2 (some (lg g.ids B∧lg (bs g.ids.length) (B.map (iG (sig g.ids 0)))∧(B.map (iG (sig g.ids 0))).map (iG (tau g.ids))=B∧AC f a.1 (B.map (iG (sig g.ids 0))) g.r (B.map (iG (sig g.ids 0)))))))⟩,gs)else none
    else (zo g.ids st.m (l.1++caps)).bind fun a=>(gets (je st.m a.2.1) g.ids).bind fun B =>
     bif xP G&&caps.all Om&&distinct g.ids&&Nat.ble g.ids.length g.out.length&&dM (bs g.out.length) g.r &&
      (sites (o.dst.getD 0) 1 (g.out.length - g.ids.length)).all (fun id=>isNone (je st.m a.2.1 id))then
      some (⟨ren (tau (g.ids++sites (o.dst.getD 0) 1 (g.out.length - g.ids.length))) g.r,
       a.2.1++(g.ids++sites (o.dst.getD 0) 1 (g.out.length - g.ids.length)).zip (g.out.map (iG (tau (g.ids++sites (o.dst.getD 0) 1 (g.out.length - g.ids.length))))),
       a.2.1.map (·.1)++(g.ids++sites (o.dst.getD 0) 1 (g.out.length - g.ids.length)),
       fG fa.2 (fG l.2 (fG a.2.2 (some (lg g.ids B∧lg (bs g.out.length) g.out∧AC f a.1 (B.map (iG (sig g.ids 0))) g.r g.out))))⟩,gs)else none
   | _,_=>none
  | _=>none
 | _,_=>none
def RN:AV→Option Int
 | .v (.int _ j)=>some j
 | _=>none
def Np (G:D) (st:St):Option Operand→Option (Option Int×Option Prop)
 | none=>some (none,none)
 | some x=>(need G (ev st x)).bind fun a=>(RN a.1).bind fun j=>some (some j,a.2)
def BH {α:Type}:Option α→Bool
 | none=>true
 | some _=>false
def slB (lo hi mx:Option Int) (n:Int):Int×Int×Int:=(lo.getD 0,hi.getD n,mx.getD n)
def rO (b:Int×Int×Int) (n:Int):Prop:=0≤b.1∧b.1≤b.2.1∧b.2.1≤b.2.2∧b.2.2≤n
def LC (hi mx:Option Int) (full:Bool):Bool:=match hi,mx with
 | none,none=>full
 | _,some _=>true
 | some _,none=>false
def capEq (hi mx:Option Int) (len:Nat):Prop:=match mx with | some q=>q=hi.getD len | none=>True
def slA (t:Nat) (lo hi mx:Option Int) (m:Id→Option Ob):AV→Option (AV×List Id×Prop)
 | .row e full len g=>match (T t).kind with
  | .slice u=>bif Nat.beq e u then
   some (.row e (LC hi mx full) ((slB lo hi mx len).2.1 - (slB lo hi mx len).1).toNat (fun j=>g ((slB lo hi mx len).1.toNat+j)),[],
    rO (slB lo hi mx len) len∧capEq hi mx len)else none
  | _=>none
 | .own id n i len cap=>match m id,(T t).kind with
  | some (.cells B),.slice u=>bif Nat.beq B.ty u then match lo,mx with
   | none,none=>some (.own id n i (hi.getD len).toNat cap,[id],rO (slB none hi none len) len)
   | none,some q=>some (.own id n i (hi.getD len).toNat (some q.toNat),[id],rO (slB none hi (some q) len) len)
   | some l,none=>some (.own id n (l.toNat+i) ((hi.getD len).toNat - l.toNat) (cap.map (· - l.toNat)),[id],rO (slB (some l) hi none len) len∧l<(len:Int))
   | some _,some _=>none
   else none
  | _,_=>none
 | .ptr id n i p=>match m id,(T t).kind with
  | some (.cells B),.array k _=>bif CS t (aJ T B.ty p)then
   some (.arr id n i p (slB lo hi mx k).1.toNat ((slB lo hi mx k).2.1 - (slB lo hi mx k).1).toNat (slB lo hi mx k).2.2.toNat,[id],
    rO (slB lo hi mx k) k∧((slB lo hi mx k).1<(slB lo hi mx k).2.2∨(slB lo hi mx k).1=0)∧k<2 ^ 63)else none
  | _,_=>none
 | .rp u x=>match (T t).kind with
  | .array k e=>bif Nat.beq u t then
   some (.row e (BH hi&&BH mx) ((slB lo hi mx k).2.1 - (slB lo hi mx k).1).toNat (fun j=>x.at [(slB lo hi mx k).1.toNat+j]),[],rO (slB lo hi mx k) k∧k<2 ^ 63)else none
  | _=>none
 | _=>none
def Na (m:Id→Option Ob) (e:Nat):AV→Option (Nat×(Nat→AV)×List Id)
 | .arr id n i p lo len _=>match m id with
  | some (.cells B)=>bif CS e (aJ T B.ty (p++[0]))then some (len,fun j=>((B.get i).at p).at [lo+j],[id])else none
  | _=>none
 | x=>JU T m e x
def Pg (m:Id→Option Ob) (e:Nat) (q:Nat×(Nat→AV)×List Id):AV→Option (Nat×List (Id×Ob)×List Id×Prop)
 | .arr id n i p lo len _=>match m id with
  | some (.cells B)=>(aJ T B.ty p).bind fun ta=>match (T ta).kind with
   | .array k e'=>bif Nat.beq e' e then
    some (Nat.min q.1 len,[(id,.cells { B with get:=fun j=>bif Nat.beq j i then (B.get i).put p (.agg ta k fun j=>bif Nat.ble lo j&&Nat.blt j (lo+Nat.min q.1 len)then q.2.1 (j - lo)else ((B.get i).at p).at [j])else B.get j})],id::q.2.2,B.fz≤i)else none
   | _=>none
  | _=>none
 | _=>none
def wu:Nat→Nat→Bool
 | 0,_=>false
 | f+1,t=>match (T t).kind with
  | .int _ | .bool | .str=>true
  | .struct fs=>(T t).eqs&&fs.all fun u=>wu f u
  | .array _ e=>wu f e
  | _=>false
def mapIdx (kt:Nat) (k:AV):List (AV×AV)→Nat→Option (Option Nat)
 | [],_=>some none
 | e::r,i=>match iH T 40 kt k e.1 with
  | some true=>some (some i)
  | some false=>mapIdx kt k r (i+1)
  | none=>none
def IE (kt vt:Nat) (es:List (AV×AV)) (k:AV) (ok:Bool):Option AV :=
 (
  mapIdx T kt k es 0).bind fun j=>match j with
  | some i=>(es[i]?).bind fun e=>some (bif ok then .tup [e.2,.bool true]else e.2)
  | none=>some (bif ok then .tup [(T vt).zero,.bool false]else (T vt).zero)
def IG (kt:Nat) (es:List (AV×AV)) (k v:AV):Option (List (AV×AV)) :=
 (
  mapIdx T kt k es 0).bind fun j=>match j with
  | some i=>some (es.set i (k,v))
  | none=>some (es++[(k,v)])
def Ql (g:CG):Option (List (AV×AV)):=match g.out with
 | [.map es]=>some es
 | _=>none
def CG.mine:CG:=⟨true,[],.tup [],[]⟩
def Ar (g:CG):Bool:=g.lent&&(match g.r,g.out with | .tup [],[]=>true | _,_=>false)
def CG.nop:CG:=⟨true,[],.tup [],[.map []]⟩
def IU (g:CG):Bool:=g.lent&&(match g.r,g.out with | .tup [],[_]=>true | _,_=>false)
def Oq (m:Id→Option Ob):AV→Option (List Id×Option Prop)
 | .row .. => some ([],none)
 | .v (.slice none 0 0)=>some ([],none)
 | .own id n _ _ _=>match m id with
  | some (.cells B)=>some ([id],some (B.n=n))
  | _=>none
 | _=>none
def evX (st:St) (G:D) (gs:List CG) (o:Oper):Option (R×List CG) :=
 match o.op with
 | .slice t x lo hi mx=>(need G (ev st x)).bind fun a=>(Np G st lo).bind fun l=>(Np G st hi).bind fun h=>(Np G st mx).bind fun q=>(slA T t l.1 h.1 q.1 st.m a.1).bind fun r=>bif BH q.1 || !BH h.1 then
  some (⟨r.1,[],r.2.1,fG a.2 (fG l.2 (fG h.2 (fG q.2 (fG (nOf st.m a.1) (some (under G r.2.2))))))⟩,gs)else none
 | .buildSlice t len ps=>match gs with
  | g::gs=>bif Ar g then (needs G st (ps.toList.map (·.2))).bind fun l=>match (T t).kind with
   | .slice e=>bif xP G&&Nat.ble (len*(T e).size) 16777216&&oL (T e).zero&&Nat.blt 0 (T e).size&&isNone (st.m (site o))&&isDst o &&
    ((ps.toList.map (·.1)).zip l.1).all (fun p=>Nat.blt p.1 len&&fit T e p.2)then
    some (⟨.own (site o) len 0 len none,[(site o,.cells ⟨e,len,qR ((ps.toList.map (·.1)).zip l.1) (T e).zero,0⟩)],[site o],l.2⟩,gs)else none
   | _=>none
   else none
  | []=>none
 | .makeMap t none=>bif xP G&&isNone (st.m (site o))&&isDst o then some (⟨.mp (site o),[(site o,.map [])],[site o],none⟩,gs)else none
 | .lookup t x k ok=>match gs with
  | g::gs=>(need G (ev st x)).bind fun a=>(need G (ev st k)).bind fun b=>match a.1,(T t).kind with
   | .mp id,.map kt vt=>match st.m id with
    | some (.map es)=>bif wu T 40 kt&&fit T kt b.1&&oL (T vt).zero then some (⟨g.r,[],[id],fG a.2 (fG b.2 (some (under G (IE T kt vt es b.1 ok=some g.r))))⟩,gs)else none
    | _=>none
   | _,_=>none
  | []=>none
 | .mapUpdate t x k v | .insert t x k v=>match gs with
  | g::gs=>(need G (ev st x)).bind fun a=>(need G (ev st k)).bind fun b=>(need G (ev st v)).bind fun c=>(Ql g).bind fun es'=>match a.1,(T t).kind with
   | .mp id,.map kt vt=>match st.m id with
    | some (.map es)=>bif xP G&&wu T 40 kt&&fit T kt b.1&&fit T vt c.1 && !isDst o then some (⟨.bad,[(id,.map es')],[id],fG a.2 (fG b.2 (fG c.2 (some (IG T kt es b.1 c.1=some es'))))⟩,gs)else none
    | _=>none
   | _,_=>none
  | []=>none
 | .call c=>match c.callee,c.args.toList,c.argTypes.toList with
  | .builtin .copy,[x,y],[t,t']=>(need G (ev st x)).bind fun a=>(need G (ev st y)).bind fun b=>match (T t).kind with
   | .slice e=>(Na T st.m e b.1).bind fun q=>(Pg T st.m e q a.1).bind fun r=>bif xP G&&Nat.beq t t'&&isDst o then
    some (⟨.int r.1,r.2.1,r.2.2.1,fG a.2 (fG b.2 (fG (nOf st.m a.1) (fG (nOf st.m b.1) (some r.2.2.2))))⟩,gs)else none
   | _=>none
  | .builtin .append,[x,y],[t,t']=>match gs with
   | g::gs=>bif IU g then (need G (ev st x)).bind fun a=>(need G (ev st y)).bind fun b=>match (T t).kind with
    | .slice e=>(JU T st.m e b.1).bind fun q=>(Oq st.m a.1).bind fun r=>bif Nat.beq t t'&&Nat.blt 0 (T e).size then
     some (⟨a.1,[],r.1++q.2.2,fG a.2 (fG b.2 (fG (nOf st.m b.1) (fG r.2 (some (q.1=0)))))⟩,gs)else none
    | _=>none
    else none
   | []=>none
  | .builtin .clear,[x],[t]=>(need G (ev st x)).bind fun a=>match a.1,(T t).kind with
   | .own id n i len cap,.slice e=>match st.m id with
    | some (.cells B)=>bif xP G&&Nat.beq B.ty e&&oL (T e).zero then
     some (⟨.tup [],[(id,.cells { B with get:=fun j=>bif Nat.ble i j&&Nat.blt j (i+len)then (T e).zero else B.get j})],[id],fG a.2 (fG (nC st.m id n) (some (B.fz≤i)))⟩,gs)else none
    | _=>none
   | _,_=>none
  | _,_,_=>none
 | _=>none
def cls (o:Oper):Nat:=match o.op with
 | .alloc _ | .box .. | .store .. | .makeSlice .. => 1
 | .buildSlice .. => 4
 | .slice .. | .makeMap .. | .lookup .. | .mapUpdate .. | .insert .. => 2
 | .call c=>match c.callee with
  | .builtin .append=>5
  | .builtin .copy=>2
  | .builtin .clear=>2
  | .value _=>3
  | _=>0
 | _=>0
def evO (AC:ACT) (st:St) (G:D) (gs:List CG) (o:Oper):Option (R×List CG) :=
 match cls o with
 | 0=>(evR T st G o).bind fun r=>some (⟨r.1,[],r.2.1,r.2.2⟩,gs)
 | 1=>(evW T st G o).bind fun r=>some (r,gs)
 | 2=>evX T st G gs o
 | 4=>match gs with
  | g::_=>bif Ar g then evX T st G gs o else (evW T st G o).bind fun r=>some (r,gs)
  | []=>(evW T st G o).bind fun r=>some (r,gs)
 | 5=>match gs with
  | g::_=>bif IU g then evX T st G gs o else (evW T st G o).bind fun r=>some (r,gs)
  | []=>(evW T st G o).bind fun r=>some (r,gs)
 | _=>evK T AC st G gs o
def jM (ops:List Oper) (st:St) (o:Oper):Option D :=
 match o.guard with
 | none=>some .always
 | some (j,w)=>(ops[j]?).bind fun oj=>oj.dst.bind fun d=>match st.t d with
  | some (.always,.v (.bool b))=>bif w then some (.when b)else some (.when (!b))
  | some (.when g,.v (.bool b))=>bif w then some (.when (g&&b))else some (.when (g && !b))
  | _=>none
structure RS where
 st:St
 gs:List CG
 c:Option Prop
def yS (nt:Nat):Option Nat→Bool
 | some d=>Nat.blt d nt
 | none=>true
def evL (AC:ACT) (nt:Nat) (ops:List Oper):List Oper→RS→Option RS
 | [],s=>some s
 | o::r,s=>(jM ops s.st o).bind fun G=>(evO T AC s.st G s.gs o).bind fun x=>bif yS nt o.dst then
  evL AC nt ops r ⟨{ (s.st.put o.dst (G,x.1.v))with m:=je s.st.m x.1.d},x.2,fG s.c x.1.c⟩else none
end
end Go.Ab
