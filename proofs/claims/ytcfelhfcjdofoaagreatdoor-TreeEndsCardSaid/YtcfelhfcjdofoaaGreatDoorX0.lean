/- Part 1 of a proof of a statement about the given program: an abstract machine over the model, proved sound, and contracts of the functions that the statement reaches; the last part proves the statement, for every input, with no condition. -/
import GoSem.Dispatch
import Derived.KernelRfl
set_option autoImplicit false
set_option linter.unusedSimpArgs false
set_option linter.unusedVariables false
namespace Go.Ab
abbrev Y0:=@if_neg
abbrev aaC:=@Option.bind_eq_some_iff
abbrev aaR:=@List.getElem?_eq_getElem
abbrev aaT:=@List.getD_eq_getElem?_getD
abbrev aaU:=@if_pos
abbrev aa3:=@Nat.le_refl
abbrev abe:=@Bool.and_eq_true
abbrev abf:=@Option.some.injEq
abbrev abJ:=@Nat.eq_of_beq_eq_true
abbrev abM:=@Nat.zero_le
abbrev abX:=@Nat.le_of_ble_eq_true
abbrev ab7:=@Nat.mul_le_mul_right
abbrev ab9:=@decide_eq_true_eq
abbrev acj:=@beq_eq_false_iff_ne
abbrev acp:=@Bool.eq_iff_iff
abbrev acG:=@decide_eq_false_iff_not
abbrev acW:=@List.getElem_mem
abbrev acX:=@decide_eq_false
abbrev acY:=@Nat.zero_add
abbrev ac6:=@List.getElem?_append_left
abbrev ac8:=@List.mem_of_getElem?
abbrev adb:=@congrArg
abbrev ade:=@Option.map_eq_some_iff
abbrev adg:=@List.length_take
abbrev adh:=@beq_iff_eq
abbrev adi:=@List.getElem?_append_right
abbrev adk:=@Int.toNat_natCast
abbrev adl:=@List.length_append
abbrev adn:=@Array.getElem?_toList
abbrev ado:=@Nat.lt_or_ge
abbrev adp:=@List.all_eq_true
abbrev adq:=@List.getElem?_eq_none
abbrev adr:=@decide_eq_true
abbrev ads:=@cond_false
abbrev adt:=@Classical.choose_spec
abbrev adu:=@List.append_assoc
abbrev adv:=@cond_true
abbrev adw:=@List.getElem?_of_mem
abbrev adx:=@Option.getD_some
abbrev ady:=@List.getElem?_map
abbrev adz:=@List.mem_cons_of_mem
abbrev adA:=@List.length_set
abbrev adB:=@not_false_eq_true
abbrev adC:=@Nat.lt_of_lt_of_le
abbrev adD:=@Nat.add_mul
abbrev adE:=@List.mem_range
abbrev adF:=@List.length_map
abbrev adG:=@not_true_eq_false
abbrev adH:=@if_false
abbrev adI:=@List.append_nil
abbrev adJ:=@Prod.mk.injEq
abbrev adK:=@Nat.succ_mul
abbrev adL:=@Nat.testBit_eq_decide_div_mod_eq
abbrev adM:=@Bool.or_eq_true
abbrev adN:=@Nat.add_assoc
abbrev adO:=@List.getElem?_take
abbrev adP:=@Bool.true_and
abbrev adQ:=@List.mem_or_eq_of_mem_set
abbrev adR:=@List.take_of_length_le
abbrev adS:=@List.length_cons
abbrev adT:=@Option.bind_some
abbrev adU:=@Option.map_some
abbrev adV:=@Nat.blt_eq
abbrev adW:=@Bool.false_eq_true
abbrev adX:=@List.mem_cons_self
abbrev adY:=@List.flatMap_append
abbrev adZ:=@List.mem_cons
abbrev ad1:=@List.take_length
abbrev ad2:=@Nat.add_zero
abbrev ad3:=@List.mem_append_left
abbrev ad4:=@Array.ext'
abbrev ad5:=@if_true
abbrev ad6:=@of_decide_eq_true
abbrev ad7:=@List.eq_nil_of_length_eq_zero
abbrev ad8:=@List.range_succ
abbrev ad9:=@List.mem_append_right
abbrev aea:=@Nat.add_comm
abbrev aeb:=@List.size_toArray
abbrev aec:=@List.take_add_one
abbrev aed:=@Nat.testBit_two_pow_mul_add
abbrev aee:=@Bool.or_eq_false_iff
abbrev aef:=@of_decide_eq_false
abbrev aeg:=@Nat.pow_le_pow_right
abbrev aeh:=@List.map_cons
abbrev aei:=@List.map_append
abbrev aej:=@Nat.le_trans
abbrev aek:=@Array.eq_empty_of_size_eq_zero
abbrev ael:=@Nat.testBit_lt_two_pow
abbrev aem:=@List.getElem?_zip_eq_some
abbrev aen:=@Array.length_toList
abbrev aeo:=@Bool.false_and
abbrev aep:=@Nat.min_eq_left
abbrev aer:=@Nat.mul_comm
abbrev aes:=@List.foldl_cons
abbrev aeu:=@Nat.lt_of_le_of_lt
abbrev aev:=@Array.toList_map
abbrev aew:=@Nat.mod_eq_of_lt
abbrev aex:=@Eq.symm
abbrev aey:=@List.flatMap_cons
abbrev aez:=@Nat.mul_le_mul_left
abbrev aeA:=@Int.toNat_of_nonneg
abbrev aeB:=@Array.getElem?_setIfInBounds_ne
abbrev aeC:=@List.getElem?_toArray
abbrev aeD:=@Nat.eq_zero_or_pos
abbrev aeE:=@List.getElem_range
abbrev aeF:=@Nat.and_two_pow_sub_one_eq_mod
abbrev aeG:=@Nat.le_succ
abbrev aeH:=@Option.ite_none_right_eq_some
abbrev aeI:=@List.take_append_of_le_length
abbrev aeJ:=@List.getElem?_cons_succ
abbrev aeK:=@Bool.not_eq_true'
abbrev aeL:=@Int.eq_ofNat_of_zero_le
abbrev aeM:=@Nat.div_add_mod
abbrev aeN:=@List.mem_append
abbrev aeO:=@Nat.testBit_two_pow_sub_succ
abbrev aeP:=@Nat.sub_zero
abbrev aeQ:=@List.mem_flatMap
abbrev aeR:=@List.length_drop
abbrev aeS:=@List.getElem_map
abbrev aeT:=@List.getElem?_drop
abbrev aeU:=@List.mem_singleton
abbrev aeV:=@Bool.and_eq_false_iff
abbrev aeW:=@Nat.div_le_self
abbrev aeX:=@Int.tmod_nonneg
abbrev aeY:=@Nat.beq_refl
abbrev aeZ:=@Nat.mod_lt
theorem tt:True:=True.intro
inductive Id where
 | b (j:Nat)
 | s (k i:Nat)
 deriving DecidableEq,Repr,Inhabited
def Id.beq:Id->Id->Bool
 | .b j,.b k=>Nat.beq j k
 | .s j x,.s k y=>Nat.beq j k&&Nat.beq x y
 | _,_=>false
inductive AV where
 | v (x:Value)
 | agg (t:Nat) (n:Nat) (get:Nat->AV)
 | tup (vs:List AV)
 | row (e:Nat) (full:Bool) (len:Nat) (get:Nat->AV)
 | own (id:Id) (n i len:Nat) (cap:Option Nat)
 | arr (id:Id) (n i:Nat) (path:List Nat) (lo len hi:Nat)
 | ptr (id:Id) (n i:Nat) (path:List Nat)
 | rp (t:Nat) (x:AV)
 | clo (f:FuncId) (caps:List AV)
 | mp (id:Id)
 deriving Inhabited
@[reducible] def AV.int (n:Int):AV := .v (.int .i64 n)
@[reducible] def AV.bool (b:Bool):AV := .v (.bool b)
@[reducible] def AV.nils:AV := .v (.slice none 0 0)
def AV.bad:AV := .v (.tuple #[])
def bI (t:Nat) (l:List AV):AV := .agg t l.length (λi=>l.getD i .bad)
def AV.at:AV->List Nat->AV
 | x,[]=>x
 | .agg _ _ get,k::p=>(get k).at p
 | _,_::_ => .bad
def AV.put:AV->List Nat->AV->AV
 | _,[],y=>y
 | .agg t n get,k::p,y => .agg t n (λj=>bif Nat.beq j k then (get k).put p y else get j)
 | x,_::_,_=>x
inductive TK where
 | int (k:IntKind) | bool | str | other
 | slice (e:Nat) | struct (fs:List Nat) | array (n e:Nat) | ptr (e:Nat) | map (k v:Nat)
 deriving Inhabited
structure TI where
 kind:TK
 size:Nat
 bytes:Nat
 hasPtr:Bool
 eqs:Bool
 zero:AV
 glb:List Nat:=[]
 deriving Inhabited
def TK.isAgg:TK->Bool
 | .struct _ | .array _ _=>true
 | _=>false
structure zI where
 ty:Nat
 n:Nat
 get:Nat->AV
 fz:Nat
inductive Ob where
 | cells (b:zI)
 | map (es:List (AV×AV))
inductive D where
 | always
 | when (g:Bool)
structure St where
 t:Nat->Option (D×AV)
 m:Id->Option Ob
def Gt (f:Nat->Option (D×AV)) (k:Nat) (x:Option (D×AV)):Nat->Option (D×AV):=λa=>bif Nat.beq a k then x else f a
def uy (f:Id->Option Ob) (k:Id) (x:Ob):Id->Option Ob:=λa=>bif Id.beq a k then some x else f a
def St.put (st:St) (d:Option Nat) (x:D×AV):St:=match d with | some d=>{ st with t:=Gt st.t d (some x) } | none=>st
def iP (m:Id->Option Ob):List (Id×Ob)->Id->Option Ob
 | []=>m
 | (i,o)::r=>iP (uy m i o) r
structure R where
 v:AV
 d:List (Id×Ob)
 f:List Id
 c:Option Prop
def fP:Option Prop->Option Prop->Option Prop
 | none,c=>c
 | some a,none=>some a
 | some a,some b=>some (a/\b)
def ay:Option Prop->Prop
 | none=>True
 | some c=>c
def D.tr:D->Prop
 | .always=>True
 | .when g=>g=true
def under (G:D) (c:Prop):Prop:=match G with | .always=>c | .when g=>g=true->c
def evC:Value->Option AV
 | .bool b=>some (.v (.bool b))
 | .int k n=>some (.v (.int k n))
 | .string s=>some (.v (.string s))
 | .slice none 0 0=>some (.v (.slice none 0 0))
 | .pointer none=>some (.v (.pointer none))
 | .map none=>some (.v (.map none))
 | .nilFunc=>some (.v .nilFunc)
 | .nilIface=>some (.v .nilIface)
 | _=>none
def ev (st:St):Operand->Option (D×AV)
 | .tmp t=>st.t t
 | .const v=>(evC v).map λa=>(.always,a)
 | .func f=>some (.always,.clo f [])
 | .global _=>none
def need (G:D) (x:Option (D×AV)):Option (AV×Option Prop) :=
 match x with
 | some (.always,a)=>some (a,none)
 | some (.when g,a)=>some (a,some (under G (g=true)))
 | none=>none
def needs (G:D) (st:St):List Operand->Option (List AV×Option Prop)
 | []=>some ([],none)
 | x::r=>(need G (ev st x)).bind λa=>(needs G st r).bind λl=>some (a.1::l.1,fP a.2 l.2)
def qj:Value->Bool
 | .bool _ | .int _ _ | .float _ _ | .complex _ _ _ | .string _ | .pointer none | .map none | .chan none | .nilFunc | .nilIface=>true
 | .slice none 0 0=>true
 | .func (.yield _) _ _=>true
 | _=>false
def rV:AV->Bool
 | .v x=>qj x
 | .agg _ _ _=>true
 | _=>false
def Qr:AV->Bool
 | .agg _ _ _ | .tup _=>false
 | _=>true
def Oa (s:Sem Value):Option AV:=match s with | .pure x=>bif qj x then some (.v x)else none | _=>none
section
variable (T:Nat->TI)
def fit (t:Nat):AV->Bool
 | .agg u _ _=>Nat.beq u t&&(T t).kind.isAgg
 | .tup _=>false
 | _ => !(T t).kind.isAgg
def aY:Nat->List Nat->Option Nat
 | t,[]=>some t
 | t,k::p=>match (T t).kind with
  | .struct fs=>(fs[k]?).bind λu=>aY u p
  | .array _ e=>aY e p
  | _=>none
def Aa (t:Nat):Option Nat->Bool
 | some u=>Nat.beq u t
 | none=>false
def Dh (F:Nat->AV->AV->Option Bool):List Nat->Nat->(Nat->AV)->(Nat->AV)->Option Bool
 | [],_,_,_=>some true
 | t::r,i,g,h=>(F t (g i) (h i)).bind λa=>(Dh F r (i+1) g h).bind λb=>some (a&&b)
def uU (F:AV->AV->Option Bool):Nat->(Nat->AV)->(Nat->AV)->Option Bool
 | 0,_,_=>some true
 | n+1,g,h=>(uU F n g h).bind λb=>(F (g n) (h n)).bind λa=>some (b&&a)
def dI (T:Nat->TI):Nat->Nat->AV->AV->Option Bool
 | 0,_,_,_=>none
 | f+1,t,x,y=>match (T t).kind,x,y with
  | .int _,.v (.int j a),.v (.int k b)=>bif decide (j=k)then some (a==b)else none
  | .bool,.v (.bool a),.v (.bool b)=>some (a==b)
  | .str,.v (.string a),.v (.string b)=>some (a==b)
  | .struct fs,.agg t1 _ g,.agg t2 _ h=>bif Nat.beq t1 t&&Nat.beq t2 t&&(T t).eqs then Dh (dI T f) fs 0 g h else none
  | .array n e,.agg t1 _ g,.agg t2 _ h=>bif Nat.beq t1 t&&Nat.beq t2 t then uU (dI T f e) n g h else none
  | _,_,_=>none
def EO (op:BinOp) (b:Bool):Option AV :=
 match op with
 | .eql=>some (.bool b)
 | .neq=>some (.bool (!b))
 | _=>none
def ED (op:BinOp) (t:Nat) (x y:AV):Option AV :=
 match (T t).kind,x,y with
 | .slice _,.row _ _ n _,.v (.slice none 0 0)=>bif Nat.blt 0 n then EO op false else none
 | .slice _,.v (.slice none 0 0),.v (.slice none 0 0)=>EO op true
 | .slice _,.v (.slice none 0 0),.row _ _ n _=>bif Nat.blt 0 n then EO op false else none
 | _,_,_=>none
def XU (x:Option AV):Option (AV×Option Prop):=x.bind λa=>some (a,none)
def EN (op:BinOp) (t:Nat) (x y:AV):Option (AV×Option Prop) :=
 match x,y with
 | .v (.int j a),.v (.int k b)=>match op with
  | .shl=>some (.v (.int j (j.wrap (a*2 ^ (min b.toNat j.bits)))),some (0<=b))
  | .shr=>some (.v (.int j (a.fdiv (2 ^ (min b.toNat j.bits)))),some (0<=b))
  | .quo=>bif decide (j=k)then some (.v (.int j (j.wrap (a.tdiv b))),some (b≠0))else none
  | .rem=>bif decide (j=k)then some (.v (.int j (a.tmod b)),some (b≠0))else none
  | op=>XU (Oa (binOp op t (.int j a) (.int k b)))
 | .v (.string a),.v (.string b)=>match op with
  | .add=>some (.v (.string (a++b)),some (a.size+b.size<2 ^ 63))
  | op=>XU (Oa (binOp op t (.string a) (.string b)))
 | .v (.bool a),.v (.bool b)=>match (T t).kind with | .bool=>XU (EO op (a==b)) | _=>none
 | .agg t1 n g,.agg t2 k h=>(dI T 40 t (.agg t1 n g) (.agg t2 k h)).bind λb=>XU (EO op b)
 | x,y=>XU (ED T op t x y)
def nC (m:Id->Option Ob) (id:Id) (n:Nat):Option Prop:=match m id with | some (.cells B)=>some (B.n=n) | _=>none
def nP (m:Id->Option Ob):AV->Option Prop
 | .ptr id n _ _=>nC m id n
 | .own id n _ _ _=>nC m id n
 | .arr id n _ _ _ _ _=>nC m id n
 | _=>none
def zD (m:Id->Option Ob) (op:BinOp) (t:Nat):AV->AV->Option (AV×Id×Option Prop)
 | .arr id n _ _ _ _ _,.v (.slice none 0 0)=>match m id,(T t).kind with
  | some (.cells B),.slice _=>(EO op false).bind λr=>some (r,id,some (B.n=n))
  | _,_=>none
 | _,_=>none
def Vd (m:Id->Option Ob) (t:Nat):AV->Option (AV×List Id)
 | .ptr id n i p=>match m id with
  | some (.cells B)=>bif Aa t (aY T B.ty p)then some ((B.get i).at p,[id])else none
  | _=>none
 | .rp u x=>bif Nat.beq u t then some (x,[])else none
 | _=>none
def Bz (t f:Nat) (m:Id->Option Ob):AV->Option (AV×List Id)
 | .ptr id n i p=>match m id,(T t).kind with
  | some (.cells B),.struct fs=>bif Aa t (aY T B.ty p)&&Nat.blt f fs.length then some (.ptr id n i (p++[f]),[id])else none
  | _,_=>none
 | .rp u x=>bif Nat.beq u t then (match (T t).kind with
  | .struct fs=>(fs[f]?).bind λe=>some (.rp e (x.at [f]),[])
  | _=>none)else none
 | _=>none
def QH (t:Nat) (i:Int) (m:Id->Option Ob):AV->Option (AV×List Id×Prop)
 | .ptr id n j p=>match m id,(T t).kind with
  | some (.cells B),.array len _=>bif Aa t (aY T B.ty p)then some (.ptr id n j (p++[i.toNat]),[id],0<=i/\i<(len:Int))else none
  | _,_=>none
 | .rp u x=>match (T t).kind with
  | .array len e=>bif Nat.beq u t then some (.rp e (x.at [i.toNat]),[],0<=i/\i<(len:Int))else none
  | _=>none
 | .row e _ len g=>match (T t).kind with
  | .slice u=>bif Nat.beq e u then some (.rp e (g i.toNat),[],0<=i/\i<(len:Int))else none
  | _=>none
 | .own id n k len _=>match m id,(T t).kind with
  | some (.cells B),.slice u=>bif Nat.beq B.ty u then some (.ptr id n (i.toNat+k) [],[id],0<=i/\i<(len:Int))else none
  | _,_=>none
 | .arr id n j p lo len _=>match m id,(T t).kind with
  | some (.cells B),.slice u=>bif Aa u (aY T B.ty (p++[0]))then some (.ptr id n j (p++[lo+i.toNat]),[id],0<=i/\i<(len:Int))else none
  | _,_=>none
 | _=>none
def yh (a:List (Nat×AV)) (x:AV):AV:=a.foldl (λx p=>x.put [p.1] p.2) x
def zW (t:Nat) (a:List (Nat×AV)):Bool:=a.all λp=>match (T t).kind with
 | .struct fs=>match fs[p.1]? with | some u=>fit T u p.2 | none=>false
 | .array k e=>Nat.blt p.1 k&&fit T e p.2
 | _=>false
def Ea (m:Id->Option Ob) (t:Nat) (x:AV):Option (AV×List Id) :=
 match (T t).kind,x with
 | .slice _,.row _ _ n _=>some (.int n,[])
 | .slice _,.own id n _ len _=>match m id with
  | some (.cells B)=>some (.int len,[id])
  | _=>none
 | .slice _,.arr id n _ _ _ len _=>match m id with
  | some (.cells B)=>some (.int len,[id])
  | _=>none
 | .slice _,.v (.slice none 0 0)=>some (.int 0,[])
 | .str,.v (.string s)=>some (.int s.size,[])
 | _,_=>none
def byteAt (s:ByteArray) (i:Nat):Int:=((s[i]?.getD 0).toNat:Nat)
def acB:AV->AV->Option AV
 | .v (.int j a),.v (.int _ b)=>some (.v (.int j (if b<a then b else a)))
 | _,_=>none
def acC:AV->AV->Option AV
 | .v (.int j a),.v (.int _ b)=>some (.v (.int j (if b>a then b else a)))
 | _,_=>none
def evR (st:St) (G:D) (o:Oper):Option (AV×List Id×Option Prop) :=
 match o.op with
 | .move x | .assign x=>(need G (ev st x)).bind λa=>some (a.1,[],a.2)
 | .pick c a b=>(need G (ev st c)).bind λc=>(ev st a).bind λa=>(ev st b).bind λb =>
  match c,a,b with
  | (.v (.bool c),cc),(da,.v (.bool x)),(db,.v (.bool y)) =>
   some (.v (.bool (cond c x y)),[],fP cc (fP (match da with | .always=>none | .when g=>some (under G (c=true->g=true))) (match db with | .always=>none | .when g=>some (under G (c=false->g=true)))))
  | _,_,_=>none
 | .load t x=>(need G (ev st x)).bind λa=>(Vd T st.m t a.1).bind λr=>some (r.1,r.2,fP a.2 (nP st.m a.1))
 | .nilCheck x=>(need G (ev st x)).bind λa=>match a.1 with
  | .ptr id n i p=>match st.m id with
   | some (.cells B)=>some (.ptr id n i p,[id],fP a.2 (some (B.n=n)))
   | _=>none
  | .rp t x=>some (.rp t x,[],a.2)
  | .clo f l=>some (.clo f l,[],a.2)
  | _=>none
 | .fieldAddr t x f=>(need G (ev st x)).bind λa=>(Bz T t f st.m a.1).bind λr=>some (r.1,r.2,fP a.2 (nP st.m a.1))
 | .field t x f=>(need G (ev st x)).bind λa=>match a.1,(T t).kind with
  | .agg u n g,.struct fs=>bif Nat.beq u t&&Nat.blt f fs.length then some (g f,[],a.2)else none
  | _,_=>none
 | .indexAddr t x i=>(need G (ev st x)).bind λa=>(need G (ev st i)).bind λi=>match i.1 with
  | .v (.int _ j)=>(QH T t j st.m a.1).bind λr=>some (r.1,r.2.1,fP a.2 (fP i.2 (fP (nP st.m a.1) (some (under G r.2.2)))))
  | _=>none
 | .index t x i=>(need G (ev st x)).bind λa=>(need G (ev st i)).bind λi=>match a.1,i.1,(T t).kind with
  | .agg u n g,.v (.int _ j),.array len e=>bif Nat.beq u t then some (g j.toNat,[],fP a.2 (fP i.2 (some (under G (0<=j/\j<(len:Int))))))else none
  | .v (.string s),.v (.int _ j),.str=>some (.v (.int .u8 (byteAt s j.toNat)),[],fP a.2 (fP i.2 (some (under G (0<=j/\j<(s.size:Int))))))
  | _,_,_=>none
 | .build t h=>(needs G st (h.toList.map (·.2))).bind λl =>
  bif fit T t (T t).zero&&rV (T t).zero&&(T t).kind.isAgg&&zW T t ((h.toList.map (·.1)).zip l.1)then some (yh ((h.toList.map (·.1)).zip l.1) (T t).zero,[],l.2)else none
 | .binOp op t x y _=>(need G (ev st x)).bind λa=>(need G (ev st y)).bind λb=>match zD T st.m op t a.1 b.1 with
  | some r=>some (r.1,[r.2.1],fP a.2 (fP b.2 r.2.2))
  | none=>(EN T op t a.1 b.1).bind λr=>some (r.1,[],fP a.2 (fP b.2 (r.2.map (under G))))
 | .unOp op t x=>(need G (ev st x)).bind λa=>match a.1 with
  | .v x=>(Oa (Op.unary op x)).bind λr=>some (r,[],a.2)
  | _=>none
 | .convert s d x=>(need G (ev st x)).bind λa=>match a.1,(T s).kind,(T d).kind with
  | .v (.int _ n),.int _,.int k=>some (.v (.int k (k.wrap n)),[],a.2)
  | .v (.string x),.str,.str=>some (.v (.string x),[],a.2)
  | _,_,_=>none
 | .extract x i=>(need G (ev st x)).bind λa=>match a.1 with
  | .tup l=>(l[i]?).bind λr=>some (r,[],a.2)
  | _=>none
 | .makeFunc (.func f) fst cs=>match fst.toList with
  | []=>(needs G st cs.toList).bind λl=>bif l.1.all Qr then some (.clo f l.1,[],l.2)else none
  | _=>none
 | .call c=>match c.callee,c.args.toList with
  | .builtin .len,[x]=>match c.argTypes.toList with
   | [t]=>(need G (ev st x)).bind λa=>(Ea T st.m t a.1).bind λr=>some (r.1,r.2,fP a.2 (nP st.m a.1))
   | _=>none
  | .builtin .min,[x,y]=>(need G (ev st x)).bind λa=>(need G (ev st y)).bind λb=>(acB a.1 b.1).bind λr=>some (r,[],fP a.2 b.2)
  | .builtin .max,[x,y]=>(need G (ev st x)).bind λa=>(need G (ev st y)).bind λb=>(acC a.1 b.1).bind λr=>some (r,[],fP a.2 b.2)
  | _,_=>none
 | _=>none
mutual
def fE:AV->Bool
 | .v _=>true
 | .agg _ n get=>(List.range n).all λi=>fE (get i)
 | .tup _=>false
 | .row .. => true
 | .own .. => false
 | .arr .. => false
 | .ptr .. => false
 | .rp .. => true
 | .clo _ caps=>Lc caps
 | .mp _=>false
def Lc:List AV->Bool
 | []=>true
 | x::r=>fE x&&Lc r
end
def BJ:D->Bool
 | .always=>true
 | .when true=>true
 | .when false=>false
def site (o:Oper):Id:=match o.dst with | some d => .s d 0 | none => .s 0 0
def isNone:Option Ob->Bool
 | none=>true
 | some _=>false
def isDst (o:Oper):Bool:=match o.dst with | some _=>true | none=>false
def wB (b:List (Nat×AV)) (z:AV):Nat->AV:=λj=>b.foldl (λa p=>bif Nat.beq p.1 j then p.2 else a) z
def Je (m:Id->Option Ob) (e:Nat):AV->Option (Nat×(Nat->AV)×List Id)
 | .row u _ n g=>bif Nat.beq u e then some (n,g,[])else none
 | .own id n i len _=>match m id with
  | some (.cells B)=>bif Nat.beq B.ty e then some (len,λj=>B.get (j+i),[id])else none
  | _=>none
 | .arr id n i p lo len _=>match m id with
  | some (.cells B)=>bif Aa e (aY T B.ty (p++[0]))then some (len,λj=>((B.get i).at p).at [lo+j],[id])else none
  | _=>none
 | _=>none
def abY (n:Nat) (g h:Nat->AV):Nat->AV:=λj=>bif Nat.blt j n then g j else h (j - n)
def Wy (n:Nat) (g:Nat->AV) (x:AV):Nat->AV:=λj=>bif Nat.beq j n then x else g j
def pV (n k:Nat) (g h:Nat->AV):Nat->AV:=match k with | 1=>Wy n g (h 0) | _=>abY n g h
def Tv (st:St) (G:D) (o:Oper):Option R :=
 bif BJ G then match o.op with
 | .alloc t=>bif Nat.blt 0 (T t).size&&rV (T t).zero&&isNone (st.m (site o))&&isDst o then
  some ⟨.ptr (site o) 1 0 [],[(site o,.cells ⟨t,1,λ_=>(T t).zero,0⟩)],[site o],none⟩else none
 | .box t x=>(need G (ev st x)).bind λa=>bif Nat.blt 0 (T t).size&&fit T t a.1&&isNone (st.m (site o))&&isDst o then
  some ⟨.ptr (site o) 1 0 [],[(site o,.cells ⟨t,1,λ_=>a.1,0⟩)],[site o],a.2⟩else none
 | .store t x y=>(need G (ev st x)).bind λa=>(need G (ev st y)).bind λb=>match a.1 with
  | .ptr id n i p=>match st.m id with
   | some (.cells B)=>bif Aa t (aY T B.ty p)&&fit T t b.1 && !isDst o then
    some ⟨.bad,[(id,.cells { B with get:=λj=>bif Nat.beq j i then (B.get i).put p b.1 else B.get j})],[id],
     fP a.2 (fP b.2 (some (B.n=n/\B.fz<=i)))⟩else none
   | _=>none
  | _=>none
 | .buildSlice t len d=>(needs G st (d.toList.map (·.2))).bind λl=>match (T t).kind with
  | .slice e=>bif Nat.ble (len*(T e).size) 16777216&&rV (T e).zero&&fE (T e).zero&&Nat.blt 0 (T e).size&&isDst o &&
   ((d.toList.map (·.1)).zip l.1).all (λp=>Nat.blt p.1 len&&fit T e p.2&&fE p.2)then
   some ⟨.row e true len (wB ((d.toList.map (·.1)).zip l.1) (T e).zero),[],[],l.2⟩else none
  | _=>none
 | .makeSlice t x y=>(need G (ev st x)).bind λa=>(need G (ev st y)).bind λb=>match a.1,b.1,(T t).kind with
  | .v (.int _ l),.v (.int _ c),.slice e=>bif rV (T e).zero&&Nat.blt 0 (T e).size&&Nat.blt 0 (T e).bytes&&isNone (st.m (site o))&&isDst o then
   some ⟨.own (site o) l.toNat 0 l.toNat none,[(site o,.cells ⟨e,l.toNat,λ_=>(T e).zero,0⟩)],[site o],fP a.2 (fP b.2 (some (0<=l/\l<=c/\c*((T e).bytes:Int)<=140737488355328)))⟩else none
  | _,_,_=>none
 | .call c=>match c.callee,c.args.toList,c.argTypes.toList with
  | .builtin .append,[x,y],[t,t']=>(need G (ev st x)).bind λa=>(need G (ev st y)).bind λb=>match (T t).kind with
   | .slice e=>(Je T st.m e b.1).bind λq=>bif Nat.beq t t'&&isDst o&&Nat.blt 0 (T e).size&&Nat.blt 0 (T e).bytes&&rV (T e).zero then match a.1 with
    | .v (.slice none 0 0)=>bif isNone (st.m (site o))then
     some ⟨.own (site o) q.1 0 q.1 none,[(site o,.cells ⟨e,q.1,pV 0 q.1 (λ_=>(T e).zero) q.2.1,0⟩)],site o::q.2.2,fP a.2 (fP b.2 (fP (nP st.m b.1) (some (0<q.1/\q.1*(T e).bytes<=140737488355328))))⟩else none
    | .row u true n g=>bif Nat.beq u e&&isNone (st.m (site o))then
     some ⟨.own (site o) (n+q.1) 0 (n+q.1) none,[(site o,.cells ⟨e,n+q.1,pV n q.1 g q.2.1,0⟩)],site o::q.2.2,fP a.2 (fP b.2 (fP (nP st.m b.1) (some (0<q.1/\(n+q.1)*(T e).bytes<=140737488355328))))⟩else none
    | .own id n 0 len none=>match st.m id with
     | some (.cells B)=>bif Nat.beq B.ty e then
      some ⟨.own id (n+q.1) 0 (n+q.1) none,[(id,.cells { B with n:=n+q.1,get:=pV n q.1 B.get q.2.1})],id::q.2.2,fP a.2 (fP b.2 (fP (nP st.m b.1) (some (B.n=n/\len=n/\0<n+q.1/\(n+q.1)*(T e).bytes<=140737488355328))))⟩else none
     | _=>none
    | _=>none
    else none
   | _=>none
  | _,_,_=>none
 | _=>none
 else none
structure CG where
 lent:Bool
 ids:List Id
 r:AV
 out:List Ob
def CG.pure (r:AV):CG:=⟨false,[],r,[]⟩
def FC:AV->Bool
 | .v _=>true
 | .tup vs=>vs.all λx=>match x with | .v _=>true | _=>false
 | _=>false
def La:AV->Bool
 | .tup vs=>vs.all fE
 | x=>fE x
def yH (m:Id->Option Ob):AV->AV
 | .agg t n get => .agg t n (λi=>bif Nat.blt i n then yH m (get i)else .bad)
 | .own id n i len cap=>match m id with
  | some (.cells B) => .row B.ty false len (λj=>B.get (j+i))
  | _ => .bad
 | x=>x
def YN (m:Id->Option Ob):AV->Prop
 | .agg t n get => ∀ i,i<n->YN m (get i)
 | .own id n i len cap=>match m id with
  | some (.cells B)=>B.n=n /\ ∀ j,j<len->fE (B.get (j+i))=true
  | _=>False
 | x=>fE x=true
def OC:AV->List Id
 | .agg _ n get=>(List.range n).flatMap λi=>OC (get i)
 | .own id _ _ _ _=>[id]
 | _=>[]
def Vp (m:Id->Option Ob):AV->Option (AV×Option Prop×Bool×List Id)
 | .own id n i len _=>match m id with
  | some (.cells B)=>some (.row B.ty false len (λj=>B.get (j+i)),some (B.n=n /\ ∀ j,j<len->fE (B.get (j+i))=true),true,[id])
  | _=>none
 | .arr id n i p lo len hi=>match m id with
  | some (.cells B)=>(aY T B.ty (p++[0])).bind λe=>some (.row e false len (λj=>((B.get i).at p).at [lo+j]),some (B.n=n /\ ∀ j,j<len->fE (((B.get i).at p).at [lo+j])=true),true,[id])
  | _=>none
 | .tup _=>none
 | .ptr id n i p=>match m id with
  | some (.cells B)=>(aY T B.ty p).bind λt=>some (.rp t (yH m ((B.get i).at p)),some (B.n=n/\YN m ((B.get i).at p)),true,id::OC ((B.get i).at p))
  | _=>none
 | x=>bif fE x then some (x,none,false,[])else none
def QJ (m:Id->Option Ob):List AV->Option (List AV×Option Prop×Bool×List Id)
 | []=>some ([],none,false,[])
 | x::r=>(Vp T m x).bind λa=>(QJ m r).bind λl=>some (a.1::l.1,fP a.2.1 l.2.1,a.2.2.1||l.2.2.1,a.2.2.2++l.2.2.2)
def gX (ids:List Id) (id:Id):Bool:=ids.any (Id.beq id)
def distinct:List Id->Bool
 | []=>true
 | a::r => !gX r a&&distinct r
def sig:List Id->Nat->Id->Id
 | [],_,id=>id
 | a::r,j,id=>bif Id.beq id a then .b j else sig r (j+1) id
def Ug (ids:List Id):Id->Id
 | .b j=>ids.getD j (.b j)
 | .s k i => .s k i
def bs (n:Nat):List Id:=(List.range n).map .b
mutual
def ren (a:Id->Id):AV->AV
 | .v x => .v x
 | .agg t n get => .agg t n (λi=>ren a (get i))
 | .tup vs => .tup (Xt a vs)
 | .row e full len get => .row e full len get
 | .own id n i len cap => .own (a id) n i len cap
 | .arr id n i p lo len hi => .arr (a id) n i p lo len hi
 | .ptr id n i p => .ptr (a id) n i p
 | .rp t x => .rp t x
 | .clo f caps => .clo f (Xt a caps)
 | .mp id => .mp (a id)
def Xt (a:Id->Id):List AV->List AV
 | []=>[]
 | x::r=>ren a x::Xt a r
end
mutual
def fH (ids:List Id):AV->Bool
 | .v _=>true
 | .agg _ n get=>(List.range n).all λi=>fH ids (get i)
 | .tup vs=>AX ids vs
 | .row .. => true
 | .own id _ _ _ _=>gX ids id
 | .arr id _ _ _ _ _ _=>gX ids id
 | .ptr id _ _ _=>gX ids id
 | .rp .. => true
 | .clo _ caps=>AX ids caps
 | .mp id=>gX ids id
def AX (ids:List Id):List AV->Bool
 | []=>true
 | x::r=>fH ids x&&AX ids r
end
def fG (a:Id->Id):Ob->Ob
 | .cells B => .cells { B with get:=λi=>ren a (B.get i) }
 | .map es => .map (es.map λp=>(ren a p.1,ren a p.2))
def okO (ids:List Id):Ob->Prop
 | .cells B => ∀ i,i<B.n->fH ids (B.get i)=true
 | .map es => ∀ p∈es,fH ids p.1=true/\fH ids p.2=true
def kU (ids:List Id):List Ob->Prop
 | []=>True
 | x::r=>okO ids x/\kU ids r
def OJ (len:Nat):Option Nat->Bool
 | some c=>Nat.beq c len
 | none=>false
def Jo (ids:List Id) (m:Id->Option Ob):AV->Option (AV×List (Id×Ob)×Option Prop)
 | .own id n i len cap=>bif gX ids id then some (.own (sig ids 0 id) n i len cap,[],none)else match m id with
  | some (.cells B)=>some (.row B.ty (OJ len cap) len (λj=>B.get (j+i)),[(id,.cells { B with fz:=max B.fz (i+len) })],some (B.n=n /\ ∀ j,j<len->fE (B.get (j+i))=true))
  | _=>none
 | .tup _=>none
 | x=>bif fH ids x then some (ren (sig ids 0) x,[],none)else none
def Em (ids:List Id) (m:Id->Option Ob):List AV->Option (List AV×List (Id×Ob)×Option Prop)
 | []=>some ([],[],none)
 | x::r=>(Jo ids m x).bind λa=>(Em ids (iP m a.2.1) r).bind λl=>some (a.1::l.1,a.2.1++l.2.1,fP a.2.2 l.2.2)
def gets (m:Id->Option Ob):List Id->Option (List Ob)
 | []=>some []
 | i::r=>(m i).bind λo=>(gets m r).bind λl=>some (o::l)
def sites (d:Nat):Nat->Nat->List Id
 | _,0=>[]
 | j,k+1 => .s d j::sites d (j+1) k
def Lr (g:CG):Bool:=match g.ids,g.out with | _::_,[]=>true | _,_=>false
abbrev Rq:=FuncId->List AV->List Ob->AV->List Ob->Prop
def evK (AC:Rq) (st:St) (G:D) (gs:List CG) (o:Oper):Option (R×List CG) :=
 match o.op,gs with
 | .call c,g::gs=>match c.callee with
  | .value d=>(need G (ev st d)).bind λb=>(needs G st c.args.toList).bind λl=>match b.1,g.lent with
   | .clo f caps,false=>(QJ T st.m (l.1++caps)).bind λa=>bif La g.r&&(!a.2.2.1||FC g.r)&&caps.all Qr then
    some (⟨g.r,[],a.2.2.2,fP b.2 (fP l.2 (fP (a.2.1.map (under G)) (some (under G (AC f a.1 [] g.r [])))))⟩,gs)else none
   | .clo f caps,true=>bif Lr g then (Em g.ids st.m (l.1++caps)).bind λa=>(gets (iP st.m a.2.1) g.ids).bind λB =>
    bif BJ G&&caps.all Qr&&distinct g.ids&&fH (bs g.ids.length) g.r then
     some (⟨ren (Ug g.ids) g.r,a.2.1,a.2.1.map (·.1)++g.ids,
      fP b.2 (fP l.2 (fP a.2.2 (some (kU g.ids B/\kU (bs g.ids.length) (B.map (fG (sig g.ids 0)))/\(B.map (fG (sig g.ids 0))).map (fG (Ug g.ids))=B/\AC f a.1 (B.map (fG (sig g.ids 0))) g.r (B.map (fG (sig g.ids 0)))))))⟩,gs)else none
    else (Em g.ids st.m (l.1++caps)).bind λa=>(gets (iP st.m a.2.1) g.ids).bind λB =>
     bif BJ G&&caps.all Qr&&distinct g.ids&&Nat.ble g.ids.length g.out.length&&fH (bs g.out.length) g.r &&
      (sites (o.dst.getD 0) 1 (g.out.length - g.ids.length)).all (λid=>isNone (iP st.m a.2.1 id))then
      some (⟨ren (Ug (g.ids++sites (o.dst.getD 0) 1 (g.out.length - g.ids.length))) g.r,
       a.2.1++(g.ids++sites (o.dst.getD 0) 1 (g.out.length - g.ids.length)).zip (g.out.map (fG (Ug (g.ids++sites (o.dst.getD 0) 1 (g.out.length - g.ids.length))))),
       a.2.1.map (·.1)++(g.ids++sites (o.dst.getD 0) 1 (g.out.length - g.ids.length)),
       fP b.2 (fP l.2 (fP a.2.2 (some (kU g.ids B/\kU (bs g.out.length) g.out/\AC f a.1 (B.map (fG (sig g.ids 0))) g.r g.out))))⟩,gs)else none
   | _,_=>none
  | _=>none
 | _,_=>none
def acD:AV->Option Int
 | .v (.int _ j)=>some j
 | _=>none
def Oi (G:D) (st:St):Option Operand->Option (Option Int×Option Prop)
 | none=>some (none,none)
 | some x=>(need G (ev st x)).bind λa=>(acD a.1).bind λj=>some (some j,a.2)
def Ac {α:Type}:Option α->Bool
 | none=>true
 | some _=>false
def qF (lo hi a:Option Int) (n:Int):Int×Int×Int:=(lo.getD 0,hi.getD n,a.getD n)
def qL (b:Int×Int×Int) (n:Int):Prop:=0<=b.1/\b.1<=b.2.1/\b.2.1<=b.2.2/\b.2.2<=n
def Td (hi a:Option Int) (full:Bool):Bool:=match hi,a with
 | none,none=>full
 | _,some _=>true
 | some _,none=>false
def capEq (hi a:Option Int) (len:Nat):Prop:=match a with | some q=>q=hi.getD len | none=>True
def slA (t:Nat) (lo hi a:Option Int) (m:Id->Option Ob):AV->Option (AV×List Id×Prop)
 | .row e full len g=>match (T t).kind with
  | .slice u=>bif Nat.beq e u then
   some (.row e (Td hi a full) ((qF lo hi a len).2.1 - (qF lo hi a len).1).toNat (λj=>g ((qF lo hi a len).1.toNat+j)),[],
    qL (qF lo hi a len) len/\capEq hi a len)else none
  | _=>none
 | .own id n i len cap=>match m id,(T t).kind with
  | some (.cells B),.slice u=>bif Nat.beq B.ty u then match lo,a with
   | none,none=>some (.own id n i (hi.getD len).toNat cap,[id],qL (qF none hi none len) len)
   | none,some q=>some (.own id n i (hi.getD len).toNat (some q.toNat),[id],qL (qF none hi (some q) len) len)
   | some l,none=>some (.own id n (l.toNat+i) ((hi.getD len).toNat - l.toNat) (cap.map (· - l.toNat)),[id],qL (qF (some l) hi none len) len/\l<(len:Int))
   | some _,some _=>none
   else none
  | _,_=>none
 | .ptr id n i p=>match m id,(T t).kind with
  | some (.cells B),.array k _=>bif Aa t (aY T B.ty p)then
   some (.arr id n i p (qF lo hi a k).1.toNat ((qF lo hi a k).2.1 - (qF lo hi a k).1).toNat (qF lo hi a k).2.2.toNat,[id],
    qL (qF lo hi a k) k/\((qF lo hi a k).1<(qF lo hi a k).2.2\/(qF lo hi a k).1=0)/\k<2 ^ 63)else none
  | _,_=>none
 | .rp u x=>match (T t).kind with
  | .array k e=>bif Nat.beq u t then
   some (.row e (Ac hi&&Ac a) ((qF lo hi a k).2.1 - (qF lo hi a k).1).toNat (λj=>x.at [(qF lo hi a k).1.toNat+j]),[],qL (qF lo hi a k) k/\k<2 ^ 63)else none
  | _=>none
 | _=>none
def Nh (m:Id->Option Ob) (e:Nat):AV->Option (Nat×(Nat->AV)×List Id)
 | .arr id n i p lo len _=>match m id with
  | some (.cells B)=>bif Aa e (aY T B.ty (p++[0]))then some (len,λj=>((B.get i).at p).at [lo+j],[id])else none
  | _=>none
 | x=>Je T m e x
def Q7 (m:Id->Option Ob) (e:Nat) (q:Nat×(Nat->AV)×List Id):AV->Option (Nat×List (Id×Ob)×List Id×Prop)
 | .arr id n i p lo len _=>match m id with
  | some (.cells B)=>(aY T B.ty p).bind λa=>match (T a).kind with
   | .array k b=>bif Nat.beq b e then
    some (Nat.min q.1 len,[(id,.cells { B with get:=λj=>bif Nat.beq j i then (B.get i).put p (.agg a k λj=>bif Nat.ble lo j&&Nat.blt j (lo+Nat.min q.1 len)then q.2.1 (j - lo)else ((B.get i).at p).at [j])else B.get j})],id::q.2.2,B.fz<=i)else none
   | _=>none
  | _=>none
 | _=>none
def Ai:Nat->Nat->Bool
 | 0,_=>false
 | f+1,t=>match (T t).kind with
  | .int _ | .bool | .str=>true
  | .struct fs=>(T t).eqs&&fs.all λu=>Ai f u
  | .array _ e=>Ai f e
  | _=>false
def mapIdx (a:Nat) (k:AV):List (AV×AV)->Nat->Option (Option Nat)
 | [],_=>some none
 | e::r,i=>match dI T 40 a k e.1 with
  | some true=>some (some i)
  | some false=>mapIdx a k r (i+1)
  | none=>none
def Bc (b a:Nat) (es:List (AV×AV)) (k:AV) (ok:Bool):Option AV :=
 (
  mapIdx T b k es 0).bind λj=>match j with
  | some i=>(es[i]?).bind λe=>some (bif ok then .tup [e.2,.bool true]else e.2)
  | none=>some (bif ok then .tup [(T a).zero,.bool false]else (T a).zero)
def Bd (a:Nat) (es:List (AV×AV)) (k v:AV):Option (List (AV×AV)) :=
 (
  mapIdx T a k es 0).bind λj=>match j with
  | some i=>some (es.set i (k,v))
  | none=>some (es++[(k,v)])
def abw (g:CG):Option (List (AV×AV)):=match g.out with
 | [.map es]=>some es
 | _=>none
def CG.mine:CG:=⟨true,[],.tup [],[]⟩
def Ia (g:CG):Bool:=g.lent&&(match g.r,g.out with | .tup [],[]=>true | _,_=>false)
def CG.nop:CG:=⟨true,[],.tup [],[.map []]⟩
def OB (g:CG):Bool:=g.lent&&(match g.r,g.out with | .tup [],[_]=>true | _,_=>false)
def Qy (m:Id->Option Ob):AV->Option (List Id×Option Prop)
 | .row .. => some ([],none)
 | .v (.slice none 0 0)=>some ([],none)
 | .own id n _ _ _=>match m id with
  | some (.cells B)=>some ([id],some (B.n=n))
  | _=>none
 | _=>none
def Zb (st:St) (G:D) (gs:List CG) (o:Oper):Option (R×List CG) :=
 match o.op with
 | .slice t x lo hi s=>(need G (ev st x)).bind λa=>(Oi G st lo).bind λl=>(Oi G st hi).bind λh=>(Oi G st s).bind λq=>(slA T t l.1 h.1 q.1 st.m a.1).bind λr=>bif Ac q.1 || !Ac h.1 then
  some (⟨r.1,[],r.2.1,fP a.2 (fP l.2 (fP h.2 (fP q.2 (fP (nP st.m a.1) (some (under G r.2.2))))))⟩,gs)else none
 | .buildSlice t len f=>match gs with
  | g::gs=>bif Ia g then (needs G st (f.toList.map (·.2))).bind λl=>match (T t).kind with
   | .slice e=>bif BJ G&&Nat.ble (len*(T e).size) 16777216&&rV (T e).zero&&Nat.blt 0 (T e).size&&isNone (st.m (site o))&&isDst o &&
    ((f.toList.map (·.1)).zip l.1).all (λp=>Nat.blt p.1 len&&fit T e p.2)then
    some (⟨.own (site o) len 0 len none,[(site o,.cells ⟨e,len,wB ((f.toList.map (·.1)).zip l.1) (T e).zero,0⟩)],[site o],l.2⟩,gs)else none
   | _=>none
   else none
  | []=>none
 | .makeMap t none=>bif BJ G&&isNone (st.m (site o))&&isDst o then some (⟨.mp (site o),[(site o,.map [])],[site o],none⟩,gs)else none
 | .lookup t x k ok=>match gs with
  | g::gs=>(need G (ev st x)).bind λa=>(need G (ev st k)).bind λb=>match a.1,(T t).kind with
   | .mp id,.map kt vt=>match st.m id with
    | some (.map es)=>bif Ai T 40 kt&&fit T kt b.1&&rV (T vt).zero then some (⟨g.r,[],[id],fP a.2 (fP b.2 (some (under G (Bc T kt vt es b.1 ok=some g.r))))⟩,gs)else none
    | _=>none
   | _,_=>none
  | []=>none
 | .mapUpdate t x k v | .insert t x k v=>match gs with
  | g::gs=>(need G (ev st x)).bind λa=>(need G (ev st k)).bind λb=>(need G (ev st v)).bind λc=>(abw g).bind λd=>match a.1,(T t).kind with
   | .mp id,.map kt vt=>match st.m id with
    | some (.map es)=>bif BJ G&&Ai T 40 kt&&fit T kt b.1&&fit T vt c.1 && !isDst o then some (⟨.bad,[(id,.map d)],[id],fP a.2 (fP b.2 (fP c.2 (some (Bd T kt es b.1 c.1=some d))))⟩,gs)else none
    | _=>none
   | _,_=>none
  | []=>none
 | .call c=>match c.callee,c.args.toList,c.argTypes.toList with
  | .builtin .copy,[x,y],[t,t']=>(need G (ev st x)).bind λa=>(need G (ev st y)).bind λb=>match (T t).kind with
   | .slice e=>(Nh T st.m e b.1).bind λq=>(Q7 T st.m e q a.1).bind λr=>bif BJ G&&Nat.beq t t'&&isDst o then
    some (⟨.int r.1,r.2.1,r.2.2.1,fP a.2 (fP b.2 (fP (nP st.m a.1) (fP (nP st.m b.1) (some r.2.2.2))))⟩,gs)else none
   | _=>none
  | .builtin .append,[x,y],[t,t']=>match gs with
   | g::gs=>bif OB g then (need G (ev st x)).bind λa=>(need G (ev st y)).bind λb=>match (T t).kind with
    | .slice e=>(Je T st.m e b.1).bind λq=>(Qy st.m a.1).bind λr=>bif Nat.beq t t'&&Nat.blt 0 (T e).size then
     some (⟨a.1,[],r.1++q.2.2,fP a.2 (fP b.2 (fP (nP st.m b.1) (fP r.2 (some (q.1=0)))))⟩,gs)else none
    | _=>none
    else none
   | []=>none
  | .builtin .clear,[x],[t]=>(need G (ev st x)).bind λa=>match a.1,(T t).kind with
   | .own id n i len cap,.slice e=>match st.m id with
    | some (.cells B)=>bif BJ G&&Nat.beq B.ty e&&rV (T e).zero then
     some (⟨.tup [],[(id,.cells { B with get:=λj=>bif Nat.ble i j&&Nat.blt j (i+len)then (T e).zero else B.get j})],[id],fP a.2 (fP (nC st.m id n) (some (B.fz<=i)))⟩,gs)else none
    | _=>none
   | _,_=>none
  | _,_,_=>none
 | _=>none
def cls (o:Oper):Nat:=match o.op with
 | .alloc _ | .box .. | .store .. | .makeSlice .. => 1
 | .buildSlice .. => 4
 | .slice .. | .makeMap .. | .lookup .. | .mapUpdate .. | .insert .. => 2
 | .call c=>match c.callee with
  | .builtin .append=>5
  | .builtin .copy=>2
  | .builtin .clear=>2
  | .value _=>3
  | _=>0
 | _=>0
def PL (AC:Rq) (st:St) (G:D) (gs:List CG) (o:Oper):Option (R×List CG) :=
 match cls o with
 | 0=>(evR T st G o).bind λr=>some (⟨r.1,[],r.2.1,r.2.2⟩,gs)
 | 1=>(Tv T st G o).bind λr=>some (r,gs)
 | 2=>Zb T st G gs o
 | 4=>match gs with
  | g::_=>bif Ia g then Zb T st G gs o else (Tv T st G o).bind λr=>some (r,gs)
  | []=>(Tv T st G o).bind λr=>some (r,gs)
 | 5=>match gs with
  | g::_=>bif OB g then Zb T st G gs o else (Tv T st G o).bind λr=>some (r,gs)
  | []=>(Tv T st G o).bind λr=>some (r,gs)
 | _=>evK T AC st G gs o
def oK (ops:List Oper) (st:St) (o:Oper):Option D :=
 match o.guard with
 | none=>some .always
 | some (j,w)=>(ops[j]?).bind λa=>a.dst.bind λd=>match st.t d with
  | some (.always,.v (.bool b))=>bif w then some (.when b)else some (.when (!b))
  | some (.when g,.v (.bool b))=>bif w then some (.when (g&&b))else some (.when (g && !b))
  | _=>none
structure RS where
 st:St
 gs:List CG
 c:Option Prop
def Dl (nt:Nat):Option Nat->Bool
 | some d=>Nat.blt d nt
 | none=>true
def VK (AC:Rq) (nt:Nat) (ops:List Oper):List Oper->RS->Option RS
 | [],s=>some s
 | o::r,s=>(oK ops s.st o).bind λG=>(PL T AC s.st G s.gs o).bind λx=>bif Dl nt o.dst then
  VK AC nt ops r ⟨{ (s.st.put o.dst (G,x.1.v))with m:=iP s.st.m x.1.d},x.2,fP s.c x.1.c⟩else none
end
end Go.Ab
