/- Part 21 of a proof of a statement about the given program: an abstract machine over the model, proved sound, and contracts of the functions that the statement reaches; the last part proves the statement, for every input, with no condition. -/
import Derived.Test.YtcfelhfcjdofoaaGreatDoorX19
import Derived.Test.YtcfelhfcjdofoaaGreatDoorX13
import Derived.LaidMore
import Derived.Lay
import Derived.OpenShut
import Derived.ProofKit
import Derived.SevenTiedAt
import Derived.Stop.Joined
import Derived.Test.YtcfelhfcjdofoaaGreatDoorCards
import Derived.Test.YtcfelhfcjdofoaaGreatDoorTie
import Derived.Test.YtcfelhfcjdofoaaGreatDoorRows
set_option autoImplicit false
set_option linter.unusedSimpArgs false
set_option linter.unusedVariables false
set_option maxRecDepth 20000
namespace Go.Ab
open Go.Proofs Go.ChangeShapes Go.WideShapes Go.ChangeAt Go.RowKit
theorem PZ:ownKnob Tryz.prog.godebug=none:=by kernel_rfl
theorem NM:laidOutB Tryz.prog=true:=by kernel_rfl
theorem Si:Tryz.prog.underlying 2=some (.int .i64):=by kernel_rfl
theorem RZ:Tryz.prog.underlying 3=some (.int .i64):=by kernel_rfl
theorem PX:Tryz.prog.underlying 4=some .bool:=by kernel_rfl
theorem uOp:Tryz.prog.underlying 118=some (.int .i64):=by kernel_rfl
theorem QZ:Tryz.prog.underlying 23=some (.slice 3):=by kernel_rfl
theorem QX:Tryz.prog.underlying 22=some (.slice 116):=by kernel_rfl
theorem Q7:Tryz.prog.underlying 24=some (.slice 100):=by kernel_rfl
theorem Q5:Tryz.prog.underlying 97=some (.slice 120):=by kernel_rfl
theorem QY:Tryz.prog.underlying 98=some (.slice 103):=by kernel_rfl
theorem PW:Tryz.prog.underlying 101=some (.slice 215):=by kernel_rfl
def Rng (n:Int):Prop:=IntKind.i64.min≤n∧n≤IntKind.i64.max
theorem kM:Dec Tryz.prog T aV 3 (fun n:Int => .int n) Rng:=Dec.int RZ rfl
theorem NC:Dec Tryz.prog T aV 2 (fun n:Int => .int n) Rng:=Dec.int Si rfl
theorem Ru:Dec Tryz.prog T aV 118 (fun n:Int => .int n) Rng:=Dec.int uOp rfl
theorem Jt:Dec Tryz.prog T aV 4 (fun b:Bool => .bool b) (fun _=>True):=Dec.bool PX rfl
theorem O8:Dec Tryz.prog T aV 23 (fun l:List Int=>ints false l) (fun l => ∀ n∈l,Rng n):=(Dec.slice hT 0 QZ rfl (Nat.le_of_ble_eq_true rfl) kM).map (fun l=>l) (fun _=>rfl) (fun _ h=>h)
theorem decVar:Dec Tryz.prog T aV 116 Jq (fun v=>Rng v.init) :=
 (Dec.struct (t:=116) hT (show (T 116).kind = .struct [4,2]from rfl) (mP.cons Jt (mP.cons NC mP.nil))).map (fun x=>⟨x.1,x.2.1⟩) (fun _=>rfl) (fun x hx=>hx.2.1)
def Nj (x:kE):Prop:=Rng x.op∧Rng x.a∧Rng x.b∧Rng x.c∧Rng x.n
theorem QG:Dec Tryz.prog T aV 120 aQ Nj :=
 (Dec.struct (t:=120) hT (show (T 120).kind = .struct [118,3,3,3,2]from rfl) (mP.cons Ru (mP.cons kM (mP.cons kM (mP.cons kM (mP.cons NC mP.nil)))))).map (fun x=>⟨x.1,x.2.1,x.2.2.1,x.2.2.2.1,x.2.2.2.2.1⟩) (fun _=>rfl) (fun x hx=>⟨hx.1,hx.2.1,hx.2.2.1,hx.2.2.2.1,hx.2.2.2.2.1⟩)
def Ia (x:vU):Prop:=Rng x.chan∧Rng x.reg∧Rng x.to
theorem O9:Dec Tryz.prog T aV 215 pK Ia :=
 (Dec.struct (t:=215) hT (show (T 215).kind = .struct [4,3,3,3]from rfl) (mP.cons Jt (mP.cons kM (mP.cons kM (mP.cons kM mP.nil))))).map (fun x=>⟨x.1,x.2.1,x.2.2.1,x.2.2.2.1⟩) (fun _=>rfl) (fun x hx=>⟨hx.2.1,hx.2.2.1,hx.2.2.2.1⟩)
def Nh (x:y8):Prop:=(∀ c∈x.cases,Ia c)∧Rng x.els
theorem QF:Dec Tryz.prog T aV 103 lF Nh :=
 (Dec.struct (t:=103) hT (show (T 103).kind = .struct [101,3]from rfl) (mP.cons (Dec.slice hT Dy PW rfl (Nat.le_of_ble_eq_true rfl) O9) (mP.cons kM mP.nil))).map (fun x=>⟨x.1,x.2.1⟩) (fun _=>rfl) (fun x hx=>⟨hx.1,hx.2.1⟩)
def Nk (x:iW):Prop:=Rng x.params∧Rng x.regs∧(∀ c∈x.code,Nj c) ∧ ∀ s∈x.sels,Nh s
theorem QH:Dec Tryz.prog T aV 100 lG Nk :=
 (Dec.struct (t:=100) hT (show (T 100).kind = .struct [3,3,97,98]from rfl) (mP.cons kM (mP.cons kM (mP.cons (Dec.slice hT zh Q5 rfl (Nat.le_of_ble_eq_true rfl) QG) (mP.cons (Dec.slice hT JW QY rfl (Nat.le_of_ble_eq_true rfl) QF) mP.nil))))).map (fun x=>⟨x.1,x.2.1,x.2.2.1,x.2.2.2.1⟩) (fun _=>rfl) (fun x hx=>⟨hx.1,hx.2.1,hx.2.2.1,hx.2.2.2.1⟩)
def H9 (x:ay):Prop:=(∀ v∈x.vars,Rng v.init)∧Rng x.locks∧(∀ c∈x.chans,Rng c) ∧ ∀ f∈x.funcs,Nk f
theorem O7:Dec Tryz.prog T aV 26 aC H9 :=
 (Dec.struct (t:=26) hT (show (T 26).kind = .struct [22,3,23,24]from rfl) (mP.cons (Dec.slice hT Px QX rfl (Nat.le_of_ble_eq_true rfl) decVar) (mP.cons kM (mP.cons O8 (mP.cons (Dec.slice hT yI Q7 rfl (Nat.le_of_ble_eq_true rfl) QH) mP.nil))))).map (fun x=>⟨x.1,x.2.1,x.2.2.1,x.2.2.2.1⟩) (fun _=>rfl) (fun x hx=>⟨hx.1,hx.2.1,hx.2.2.1,hx.2.2.2.1⟩)
theorem ML {H:Type} {eh:TypeId×Value→H} {W:World} {base:Nat} {v:Value} {d:DataW H} {p:List MemPlace} (h:DataW.Trod eh Tryz.prog W 0 (fun _=>true) true 26 v d p) (hok:Value.okWide Tryz.prog W .any base 26 v):∃ x:ay,H9 x∧gI T aV (sK W) iI (aC x) v:=by
 obtain ⟨fuel,h⟩:=h;obtain ⟨x,hq,hl,_⟩:=O7 H eh W fuel _ d p h;obtain ⟨cs,rfl⟩:=wV hT (show (T 26).kind = .struct [22,3,23,24]from rfl) hok;exact ⟨x,hq,.one ⟨(Value.agg cs).cells.toList,hl,by simp [bZ,aC,bG,Value.cells]⟩⟩
theorem Rh {W:World} {a b:AV} {v0 v1:Value} (h0:gI T aV (sK W) iI a v0) (h1:gI T aV (sK W) iI b v1) :
 ∀ (i:Nat) (x:AV) (v:Value),[a,b][i]? = some x→(#[v0,v1]:Array Value).toList[i]? = some v→gI T aV (sK W) iI x v:=by
 intro i x v hx hv
 match i with
 | 0=>simp at hx hv;subst hx hv;exact h0
 | 1=>first | (simp at hx;done) | (simp at hx hv;subst hx hv;exact h1)
 | 2=>first | (simp at hx;done) | (simp at hx hv;subst hx hv;exact h2)
 | i+3=>simp at hx
def Nl (b:iy):Prop:=Rng b.steps∧Rng b.fuel∧Rng b.runs
theorem QI:Dec Tryz.prog T aV 28 bK Nl :=
 (Dec.struct (t:=28) hT (show (T 28).kind = .struct [3,3,3]from rfl) (mP.cons kM (mP.cons kM (mP.cons kM mP.nil)))).map (fun x=>⟨x.1,x.2.1,x.2.2.1⟩) (fun _=>rfl) (fun x hx=>⟨hx.1,hx.2.1,hx.2.2.1⟩)
theorem Gu {H:Type} {eh:TypeId×Value→H} {W:World} {base:Nat} {v:Value} {d:DataW H} {p:List MemPlace} (h:DataW.Trod eh Tryz.prog W 0 (fun _=>true) true 28 v d p) (hok:Value.okWide Tryz.prog W .any base 28 v):∃ x:iy,Nl x∧gI T aV (sK W) iI (bK x) v:=by
 obtain ⟨fuel,h⟩:=h;obtain ⟨x,hq,hl,_⟩:=QI H eh W fuel _ d p h;obtain ⟨cs,rfl⟩:=wV hT (show (T 28).kind = .struct [3,3,3]from rfl) hok;exact ⟨x,hq,.one ⟨(Value.agg cs).cells.toList,hl,by simp [bZ,bK,bG,Value.cells]⟩⟩
abbrev lds:List (String×DataW Unit):=[("math/bits.deBruijn64tab",Go.Proofs.YtcfelhfcjdofoaaGreatDoor.Rows.laid_math_bits_deBruijn64tab)]
theorem Qu:(Go.Proofs.YtcfelhfcjdofoaaGreatDoor.Rows.laid_math_bits_deBruijn64tab:DataW Unit) = .agg (deB.map fun n:Nat => .lit (.int .u8 (n:Int))):=rfl
theorem RY:Tryz.prog.underlying 381=some (.array 64 5):=by kernel_rfl
theorem uU8:Tryz.prog.underlying 5=some (.int .u8):=by kernel_rfl
theorem Ls {W:World} (h:laidMetH Tryz.prog lds W) (r:Nat) (hr:r<64):W.cell? ⟨0,r,none⟩=some (.int .u8 (deB.getD r 0:Nat)):=by
 rw [MakeChecks.laidMetH_plain _ _ _ (by kernel_rfl)]at h;obtain ⟨ps,⟨g,t,cs,fuel,p,q,hg,ht,hv,hd,_,_⟩,_,_⟩:=h;obtain rfl:=Option.some.inj ((show Tryz.prog.globalNamed "math/bits.deBruijn64tab" = some 0 by kernel_rfl).symm.trans hg);obtain rfl:=Option.some.inj ((show (Tryz.prog.globals[0]?).map (·.type)=some 381 by kernel_rfl).symm.trans ht);obtain ⟨xs,m,_,ex,_,hl,hel⟩:=DataW.trod_array RY hd;have c5:Tryz.prog.cellsOf 5=1:=by kernel_rfl
 have hE:=hel r hr;rw [c5,Nat.mul_one,List.getElem?_eq_getElem (by omega)]at hE;obtain ⟨z,e1,e2,_⟩:=DataW.trod_int uU8 hE;have hlen:deB.length=64:=rfl
 have e3:(xs.map (·.1))=deB.map fun n:Nat=>(.lit (.int .u8 (n:Int)):DataW Unit):=(DataW.agg.inj (Qu.symm.trans (Prod.mk.inj ex).1)).symm;have e4:(xs.map (·.1))[r]? = (deB.map fun n:Nat=>(DataW.lit (.int .u8 (n:Int)):DataW Unit))[r]? := by rw [e3]
 rw [List.getElem?_map,List.getElem?_map,List.getElem?_eq_getElem (by omega:r<xs.length),List.getElem?_eq_getElem (by omega:r<deB.length),e2]at e4;have hz:z=(deB.getD r 0:Nat):=by
  simp only [Option.map_some,Option.some.injEq,DataW.lit.injEq,Lit.int.injEq,true_and]at e4;rw [e4,List.getD,List.getElem?_eq_getElem (by omega:r<deB.length)];rfl
 rw [World.var?_cell hg hv r,← hz];have:cs.toList[r]? = some (.int .u8 z):=by
  have h0:((cs.toList.drop r).take 1)[0]? = some (.int .u8 z):=by rw [e1];rfl
  simpa using h0
 simpa using this
def Tr.glbs:Tr→Bool
 | .e=>true
 | .n k x l r=>(Nat.beq k 0||x.glb.isEmpty)&&l.glbs&&r.glbs
theorem Tr.glb_get:∀ (x:Tr) (t:Nat),x.glbs=true→(x.get t).glb≠[]→t=0
 | .e,t,_,h=>absurd rfl h
 | .n k y l r,t,h,h2=>by
  simp only [Tr.glbs,Bool.and_eq_true,Bool.or_eq_true]at h;cases h3:Nat.beq t k with
  | true =>
   have e:=Nat.eq_of_beq_eq_true h3;subst e;rcases h.1.1 with h4 | h4
   ·exact Nat.eq_of_beq_eq_true h4
   ·exfalso;apply h2;simp only [Tr.get,h3,cond_true];simpa using h4
  | false =>
   cases h4:Nat.blt t k with
   | true=>exact l.glb_get t h.1.2 (fun e=>h2 (by simp only [Tr.get,h3,h4,cond_true,cond_false];exact e))
   | false=>exact r.glb_get t h.2 (fun e=>h2 (by simp only [Tr.get,h3,h4,cond_false];exact e))
theorem OM {W:World} (h:laidMetH Tryz.prog lds W):∀ (b o n:Nat),(T b).glb[o]? = some n→W.cell? ⟨b,o,none⟩=some (.int .u8 n):=by
 intro b o n hn;have hb:b=0:=Tr.glb_get tys b (by decide+kernel) (fun e=>by
  have e':(T b).glb=[]:=e;rw [e']at hn;cases hn)
 subst hb;have hn':deB[o]? = some n:=hn
 obtain ⟨ho,e⟩:=List.getElem?_eq_some_iff.1 hn';have h1:=Ls h o ho
 rw [h1,← e,List.getD,List.getElem?_eq_getElem ho];rfl
end Go.Ab
