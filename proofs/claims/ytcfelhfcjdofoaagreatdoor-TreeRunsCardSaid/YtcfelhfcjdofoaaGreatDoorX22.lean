/- Part 23 of a proof of a statement about the given program: an abstract machine over the model, proved sound, and contracts of the functions that the statement reaches; the last part proves the statement, for every input, with no condition. -/
import Derived.Test.YtcfelhfcjdofoaaGreatDoorX19
import Derived.Test.YtcfelhfcjdofoaaGreatDoorX13
import Derived.LaidMore
import Derived.Lay
import Derived.OpenShut
import Derived.ProofKit
import Derived.SevenTiedAt
import Derived.Stop.Joined
import Derived.Test.YtcfelhfcjdofoaaGreatDoorCards
import Derived.Test.YtcfelhfcjdofoaaGreatDoorTie
import Derived.Test.YtcfelhfcjdofoaaGreatDoorRows
set_option autoImplicit false
set_option linter.unusedSimpArgs false
set_option linter.unusedVariables false
set_option maxRecDepth 20000
namespace Go.Ab
open Go.Proofs Go.ChangeShapes Go.WideShapes Go.ChangeAt Go.RowKit
theorem Yz:ownKnob Tryz.prog.godebug=none:=by kernel_rfl
theorem Wy:laidOutB Tryz.prog=true:=by kernel_rfl
theorem aau:Tryz.prog.underlying 2=some (.int .i64):=by kernel_rfl
theorem aat:Tryz.prog.underlying 3=some (.int .i64):=by kernel_rfl
theorem Yw:Tryz.prog.underlying 4=some .bool:=by kernel_rfl
theorem uOp:Tryz.prog.underlying 118=some (.int .i64):=by kernel_rfl
theorem ZI:Tryz.prog.underlying 23=some (.slice 3):=by kernel_rfl
theorem ZG:Tryz.prog.underlying 22=some (.slice 116):=by kernel_rfl
theorem ZK:Tryz.prog.underlying 24=some (.slice 100):=by kernel_rfl
theorem ZJ:Tryz.prog.underlying 97=some (.slice 120):=by kernel_rfl
theorem ZH:Tryz.prog.underlying 98=some (.slice 103):=by kernel_rfl
theorem Yv:Tryz.prog.underlying 101=some (.slice 215):=by kernel_rfl
def Rng (n:Int):Prop:=IntKind.i64.min≤n∧n≤IntKind.i64.max
theorem oH:Dec Tryz.prog T bn 3 (fun n:Int => .int n) Rng:=Dec.int aat rfl
theorem V8:Dec Tryz.prog T bn 2 (fun n:Int => .int n) Rng:=Dec.int aau rfl
theorem Z5:Dec Tryz.prog T bn 118 (fun n:Int => .int n) Rng:=Dec.int uOp rfl
theorem QX:Dec Tryz.prog T bn 4 (fun b:Bool => .bool b) (fun _=>True):=Dec.bool Yw rfl
theorem decVar:Dec Tryz.prog T bn 116 Dq (fun v=>Rng v.init) :=
 (Dec.struct (t:=116) hT (show (T 116).kind = .struct [4,2]from rfl) (zl.cons QX (zl.cons V8 zl.nil))).map (fun x=>⟨x.1,x.2.1⟩) (fun _=>rfl) (fun x hx=>hx.2.1)
def Vx (x:jR):Prop:=Rng x.op∧Rng x.a∧Rng x.b∧Rng x.c∧Rng x.n
theorem Zl:Dec Tryz.prog T bn 120 aP Vx :=
 (Dec.struct (t:=120) hT (show (T 120).kind = .struct [118,3,3,3,2]from rfl) (zl.cons Z5 (zl.cons oH (zl.cons oH (zl.cons oH (zl.cons V8 zl.nil)))))).map (fun x=>⟨x.1,x.2.1,x.2.2.1,x.2.2.2.1,x.2.2.2.2.1⟩) (fun _=>rfl) (fun x hx=>⟨hx.1,hx.2.1,hx.2.2.1,hx.2.2.2.1,hx.2.2.2.2.1⟩)
def Pe (x:Bz):Prop:=Rng x.chan∧Rng x.reg∧Rng x.to
theorem Yb:Dec Tryz.prog T bn 215 mP Pe :=
 (Dec.struct (t:=215) hT (show (T 215).kind = .struct [4,3,3,3]from rfl) (zl.cons QX (zl.cons oH (zl.cons oH (zl.cons oH zl.nil))))).map (fun x=>⟨x.1,x.2.1,x.2.2.1,x.2.2.2.1⟩) (fun _=>rfl) (fun x hx=>⟨hx.2.1,hx.2.2.1,hx.2.2.2.1⟩)
def Vw (x:yP):Prop:=(∀ c∈x.cases,Pe c)∧Rng x.els
def Vy (x:iL):Prop:=Rng x.params∧Rng x.regs∧(∀ c∈x.code,Vx c) ∧ ∀ s∈x.sels,Vw s
def I9 (x:ay):Prop:=(∀ v∈x.vars,Rng v.init)∧Rng x.locks∧(∀ c∈x.chans,Rng c) ∧ ∀ f∈x.funcs,Vy f
theorem ZP {W:World} {a b:AV} {v0 v1:Value} (h0:jf T bn (uM W) jA a v0) (h1:jf T bn (uM W) jA b v1) :
 ∀ (i:Nat) (x:AV) (v:Value),[a,b][i]? = some x→(#[v0,v1]:Array Value).toList[i]? = some v→jf T bn (uM W) jA x v:=by
 intro i x v hx hv
 match i with
 | 0=>simp at hx hv;subst hx hv;exact h0
 | 1=>first | (simp at hx;done) | (simp at hx hv;subst hx hv;exact h1)
 | 2=>first | (simp at hx;done) | (simp at hx hv;subst hx hv;exact h2)
 | i+3=>simp at hx
def Vz (b:iq):Prop:=Rng b.steps∧Rng b.fuel∧Rng b.runs
theorem Zm:Dec Tryz.prog T bn 28 dD Vz :=
 (Dec.struct (t:=28) hT (show (T 28).kind = .struct [3,3,3]from rfl) (zl.cons oH (zl.cons oH (zl.cons oH zl.nil)))).map (fun x=>⟨x.1,x.2.1,x.2.2.1⟩) (fun _=>rfl) (fun x hx=>⟨hx.1,hx.2.1,hx.2.2.1⟩)
theorem NW {H:Type} {eh:TypeId×Value→H} {W:World} {base:Nat} {v:Value} {d:DataW H} {p:List MemPlace} (h:DataW.Trod eh Tryz.prog W 0 (fun _=>true) true 28 v d p) (hok:Value.okWide Tryz.prog W .any base 28 v):∃ x:iq,Vz x∧jf T bn (uM W) jA (dD x) v:=by
 obtain ⟨fuel,h⟩:=h;obtain ⟨x,hq,hl,_⟩:=Zm H eh W fuel _ d p h;obtain ⟨cs,rfl⟩:=CS hT (show (T 28).kind = .struct [3,3,3]from rfl) hok;exact ⟨x,hq,.one ⟨(Value.agg cs).cells.toList,hl,by simp [eY,dD,cu,Value.cells]⟩⟩
abbrev lds:List (String×DataW Unit):=[("math/bits.deBruijn64tab",Go.Proofs.YtcfelhfcjdofoaaGreatDoor.Rows.laid_math_bits_deBruijn64tab)]
theorem Y9:(Go.Proofs.YtcfelhfcjdofoaaGreatDoor.Rows.laid_math_bits_deBruijn64tab:DataW Unit) = .agg (deB.map fun n:Nat => .lit (.int .u8 (n:Int))):=rfl
theorem aas:Tryz.prog.underlying 381=some (.array 64 5):=by kernel_rfl
theorem uU8:Tryz.prog.underlying 5=some (.int .u8):=by kernel_rfl
theorem Ut {W:World} (h:laidMetH Tryz.prog lds W) (r:Nat) (hr:r<64):W.cell? ⟨0,r,none⟩=some (.int .u8 (deB.getD r 0:Nat)):=by
 rw [MakeChecks.laidMetH_plain _ _ _ (by kernel_rfl)]at h;obtain ⟨ps,⟨g,t,cs,fuel,p,q,hg,ht,hv,hd,_,_⟩,_,_⟩:=h;obtain rfl:=Option.some.inj ((show Tryz.prog.globalNamed "math/bits.deBruijn64tab" = some 0 by kernel_rfl).symm.trans hg);obtain rfl:=Option.some.inj ((show (Tryz.prog.globals[0]?).map (·.type)=some 381 by kernel_rfl).symm.trans ht);obtain ⟨xs,m,_,ex,_,hl,hel⟩:=DataW.trod_array aas hd;have c5:Tryz.prog.cellsOf 5=1:=by kernel_rfl
 have hE:=hel r hr;rw [c5,Nat.mul_one,List.getElem?_eq_getElem (by omega)]at hE;obtain ⟨z,e1,e2,_⟩:=DataW.trod_int uU8 hE;have hlen:deB.length=64:=rfl
 have e3:(xs.map (·.1))=deB.map fun n:Nat=>(.lit (.int .u8 (n:Int)):DataW Unit):=(DataW.agg.inj (Y9.symm.trans (Prod.mk.inj ex).1)).symm;have e4:(xs.map (·.1))[r]? = (deB.map fun n:Nat=>(DataW.lit (.int .u8 (n:Int)):DataW Unit))[r]? := by rw [e3]
 rw [List.getElem?_map,List.getElem?_map,List.getElem?_eq_getElem (by omega:r<xs.length),List.getElem?_eq_getElem (by omega:r<deB.length),e2]at e4;have hz:z=(deB.getD r 0:Nat):=by
  simp only [Option.map_some,Option.some.injEq,DataW.lit.injEq,Lit.int.injEq,true_and]at e4;rw [e4,List.getD,List.getElem?_eq_getElem (by omega:r<deB.length)];rfl
 rw [World.var?_cell hg hv r,← hz];have:cs.toList[r]? = some (.int .u8 z):=by
  have h0:((cs.toList.drop r).take 1)[0]? = some (.int .u8 z):=by rw [e1];rfl
  simpa using h0
 simpa using this
def Tr.glbs:Tr→Bool
 | .e=>true
 | .n k x l r=>(Nat.beq k 0||x.glb.isEmpty)&&l.glbs&&r.glbs
theorem Tr.glb_get:∀ (x:Tr) (t:Nat),x.glbs=true→(x.get t).glb≠[]→t=0
 | .e,t,_,h=>absurd rfl h
 | .n k y l r,t,h,h2=>by
  simp only [Tr.glbs,Bool.and_eq_true,Bool.or_eq_true]at h;cases h3:Nat.beq t k with
  | true =>
   have e:=Nat.eq_of_beq_eq_true h3;subst e;rcases h.1.1 with h4 | h4
   ·exact Nat.eq_of_beq_eq_true h4
   ·exfalso;apply h2;simp only [Tr.get,h3,cond_true];simpa using h4
  | false =>
   cases h4:Nat.blt t k with
   | true=>exact l.glb_get t h.1.2 (fun e=>h2 (by simp only [Tr.get,h3,h4,cond_true,cond_false];exact e))
   | false=>exact r.glb_get t h.2 (fun e=>h2 (by simp only [Tr.get,h3,h4,cond_false];exact e))
theorem XQ {W:World} (h:laidMetH Tryz.prog lds W):∀ (b o n:Nat),(T b).glb[o]? = some n→W.cell? ⟨b,o,none⟩=some (.int .u8 n):=by
 intro b o n hn;have hb:b=0:=Tr.glb_get tys b (by decide+kernel) (fun e=>by
  have e':(T b).glb=[]:=e;rw [e']at hn;cases hn)
 subst hb;have hn':deB[o]? = some n:=hn
 obtain ⟨ho,e⟩:=List.getElem?_eq_some_iff.1 hn';have h1:=Ut h o ho
 rw [h1,← e,List.getD,List.getElem?_eq_getElem ho];rfl
end Go.Ab
