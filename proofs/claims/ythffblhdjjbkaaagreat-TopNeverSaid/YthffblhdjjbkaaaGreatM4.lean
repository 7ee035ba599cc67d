/- From a law's walk ('it returns true; v.(T) with ok; A document's parts; A slice of api.Ev in memory.; event.Size; truchmanbook.Doc as plain data.; truchmanbook.text; A slice of parts as values of what -/
import Derived.Test.YthffblhdjjbkaaaGreatM1
import Derived.Test.YthffblhdjjbkaaaGreatRows
import Derived.ProofKit
import Derived.Lib.Strings
set_option maxHeartbeats 100000000
set_option maxRecDepth 1000000
open Go.Lib (hid)
open Go.Proofs.Tryz
open Or (inl inr)
namespace Go.Proofs.YthffblhdjjbkaaaGreat
open Go.RowKit Go.Tru Go.ChangeShapes Go.WideShapes Go.ChangeAt
theorem Tryz.own:ownKnob Tryz.prog.godebug=none:=by kernel_rfl
theorem Tryz.laidOut:laidOutB prog=true:=by kernel_rfl
theorem pq {H:Type} {enc:TypeId×Value→H} {P:Program} (hl:laidOutB P=true) {W W':World} (hb:Below W.heap.size W W'): ∀ (ts:List TypeId) (vs:List Value) (ds:List (DataW H)) (ps:List MemPlace),ts.all (fun t=>P.readableRec t&&decide (t<P.types.size))=true→DataW.TrodAll enc P W 0 (fun _=>true) true ts vs ds ps→(∀x∈ps,x.block<W.heap.size)→DataW.TrodAll enc P W' 0 (fun b=>decide (b<W.heap.size)) true ts vs ds ps
 | [],[],[],_,_,h,_=>h
 |t::ts,v::vs,d::ds,ps,hr,h,dD=>by obtain⟨p,q,h1,h2,rfl⟩:=h;simp only[List.all_cons,Bool.and_eq_true,decide_eq_true_eq] at hr;exact⟨p,q,Below.trod hl hr.1.1 hr.1.2 h1 hb (fun x hx=>dD x (List.mem_append_left _ hx)),pq hl hb ts vs ds q hr.2 h2 (fun x hx=>dD x (List.mem_append_right _ hx)),rfl⟩
 | [],[],_::_,_,_,h,_=>by simp[DataW.TrodAll] at h
 | [],_::_,_,_,_,h,_=>by simp[DataW.TrodAll] at h
 |_::_,[],_,_,_,h,_=>by simp[DataW.TrodAll] at h
 |_::_,_::_,[],_,_,h,_=>by simp[DataW.TrodAll] at h
theorem NR {H:Type} {enc:TypeId×Value→H} {f:Func} {s:ChangeSpec} {W W':World} {args:Array Value} {ds gs:List (DataW H)} {before:List MemPlace} (hW:DataW.Whole enc prog f.params.toList s.vars false W args.toList ds gs before) (hv:s.vars= []) (iI:f.resultTypes= #[4]) (hr:f.params.toList.all (fun t=>Tryz.prog.readableRec t&&decide (t<Tryz.prog.types.size))=true) (hs:(s.fn H (ds++gs)).results= [.lit (.bool true)]∧(s.fn H (ds++gs)).args=ds∧(s.fn H (ds++gs)).vars= []) (hb:Below W.heap.size W W'):s.post enc prog f false true false false W args (.bool true) W':=by
 have Zq:=hW;have dD: ∀x∈before,x.block<W.heap.size:=fun x hx=>by simpa using Zq.lt x hx
 obtain⟨p,q,hA,hV,rfl,_,_⟩:=hW;have hg:gs= []∧q= []:=by rw[hv] at hV;exact trodVars_none hV
 obtain⟨rfl,rfl⟩:=hg;refine⟨ds,[],p++[],[],p,[],Zq,?_,?_,?_,hb.frame _,fun h=>by cases h⟩
 ·rw[hs.1,iI];exact trodAll_mk1 (shut_bool underlying4 true)
 ·rw[hs.2.1];exact pq Tryz.laidOut hb _ _ _ _ hr hA (fun x hx=>dD x (List.mem_append_left _ hx))
 ·rw[hs.2.2,hv];exact rfl
theorem yy {n:Int} (h:(Lit.int .i64 n).wf=true): -9223372036854775808≤n∧n≤9223372036854775807:=by simpa[Lit.wf,IntKind.min,IntKind.max,IntKind.signed,IntKind.bits] using h
theorem Tryz.Kz:Tryz.prog.cellsOf 3=1:=by kernel_rfl
theorem uU {H:Type} {enc:TypeId×Value→H} {W:World} {base:Nat} {v:Value} {d:DataW H} {p:List MemPlace} (hv:Value.okWide prog W .any base 22 v) (h:DataW.Trod enc prog W 0 (fun _=>true) true 22 v d p) (dD: ∀x∈p,x.block<W.heap.size): ∃ (n c:Nat) (o:Option Addr) (xs:List Int),v= .slice o n c∧ni W o n c xs:=by
 obtain⟨a0,len,cap,rfl⟩:=okWide_slice underlying22 hv;obtain⟨fuel,hf⟩:=h;rcases open_ints underlying22 underlying3 Tryz.Kz hf with⟨tN,hx⟩|⟨a,aj5,fB,zs,tN,_,hl,hm,hz,hx,nW,Zm⟩
 ·simp[Value.cells] at tN;obtain⟨rfl,rfl,rfl⟩:=tN;exact⟨0,0,none,[],rfl,rfl,Nat.le_refl _,Nat.zero_le _,inl rfl,by simp⟩
 ·simp[Value.cells] at tN;obtain⟨rfl,rfl,rfl⟩:=tN;simp only[Prod.mk.injEq] at hx;obtain⟨rfl,rfl⟩:=hx;simp only[if_true] at hz;refine⟨len,cap,some a,zs.take len,rfl,by rw[List.length_take];omega,hl,hm,?_,fun x hx=>yy (Zm x (List.mem_of_mem_take hx))⟩;by_cases h0:len=0
  ·exact inl h0
  ·obtain⟨b,off,spot⟩:=a;have Zr:spot=none:=by simpa[Addr.add] using World.cell?_spot (nW 0 (by omega))
   subst Zr;refine inr ⟨b,off,rfl,dD (.cell b off) (MemPlace.mem_row.2 ⟨0,by omega,by simp⟩),fun i x hx=> ?_⟩;obtain⟨hi,hx⟩:=List.getElem?_eq_some_iff.1 hx;rw[List.length_take] at hi;rw[←add_plain,nW i (by omega),←hx];simp[List.getD,show i<zs.length by omega]
end Go.Proofs.YthffblhdjjbkaaaGreat
namespace Go.Proofs.YthffblhdjjbkaaaGreat
open Go.RowKit Go.Tru
@[go_sem] theorem Sv (v:Value) (w:World):(Instr.typeAssert (.iface 4 v) 20 4 true).run prog w= .ok (.tuple #[v,.bool true]) w:=by kernel_rfl
@[go_sem] theorem Rq (v:Value) (w:World):(Instr.typeAssert (.iface 4 v) 20 96 true).run prog w= .ok (.tuple #[.agg #[.bool false,.int .u64 0],.bool false]) w:=by kernel_rfl
@[go_sem] theorem Sw (v:Value) (w:World):(Instr.typeAssert (.iface 4 v) 20 226 true).run prog w= .ok (.tuple #[.string ⟨#[]⟩,.bool false]) w:=by kernel_rfl
@[go_sem] theorem Sx (v:Value) (w:World):(Instr.typeAssert (.iface 4 v) 20 230 true).run prog w= .ok (.tuple #[.string ⟨#[]⟩,.bool false]) w:=by kernel_rfl
@[go_sem] theorem xB (v:Value) (w:World):(Instr.typeAssert (.iface 4 v) 20 215 true).run prog w= .ok (.tuple #[.agg #[.bool false,.int .i64 0],.bool false]) w:=by kernel_rfl
@[go_sem] theorem xC (v:Value) (w:World):(Instr.typeAssert (.iface 4 v) 20 218 true).run prog w= .ok (.tuple #[.agg #[],.bool false]) w:=by kernel_rfl
@[go_sem] theorem Rr (v:Value) (w:World):(Instr.typeAssert (.iface 96 v) 20 4 true).run prog w= .ok (.tuple #[.bool false,.bool false]) w:=by kernel_rfl
@[go_sem] theorem NS (v:Value) (w:World):(Instr.typeAssert (.iface 96 v) 20 96 true).run prog w= .ok (.tuple #[v,.bool true]) w:=by kernel_rfl
@[go_sem] theorem Rs (v:Value) (w:World):(Instr.typeAssert (.iface 96 v) 20 226 true).run prog w= .ok (.tuple #[.string ⟨#[]⟩,.bool false]) w:=by kernel_rfl
@[go_sem] theorem Rt (v:Value) (w:World):(Instr.typeAssert (.iface 96 v) 20 230 true).run prog w= .ok (.tuple #[.string ⟨#[]⟩,.bool false]) w:=by kernel_rfl
@[go_sem] theorem uV (v:Value) (w:World):(Instr.typeAssert (.iface 96 v) 20 215 true).run prog w= .ok (.tuple #[.agg #[.bool false,.int .i64 0],.bool false]) w:=by kernel_rfl
@[go_sem] theorem uW (v:Value) (w:World):(Instr.typeAssert (.iface 96 v) 20 218 true).run prog w= .ok (.tuple #[.agg #[],.bool false]) w:=by kernel_rfl
@[go_sem] theorem Sy (v:Value) (w:World):(Instr.typeAssert (.iface 226 v) 20 4 true).run prog w= .ok (.tuple #[.bool false,.bool false]) w:=by kernel_rfl
@[go_sem] theorem Ru (v:Value) (w:World):(Instr.typeAssert (.iface 226 v) 20 96 true).run prog w= .ok (.tuple #[.agg #[.bool false,.int .u64 0],.bool false]) w:=by kernel_rfl
@[go_sem] theorem Sz (v:Value) (w:World):(Instr.typeAssert (.iface 226 v) 20 226 true).run prog w= .ok (.tuple #[v,.bool true]) w:=by kernel_rfl
@[go_sem] theorem SB (v:Value) (w:World):(Instr.typeAssert (.iface 226 v) 20 230 true).run prog w= .ok (.tuple #[.string ⟨#[]⟩,.bool false]) w:=by kernel_rfl
@[go_sem] theorem xD (v:Value) (w:World):(Instr.typeAssert (.iface 226 v) 20 215 true).run prog w= .ok (.tuple #[.agg #[.bool false,.int .i64 0],.bool false]) w:=by kernel_rfl
@[go_sem] theorem xE (v:Value) (w:World):(Instr.typeAssert (.iface 226 v) 20 218 true).run prog w= .ok (.tuple #[.agg #[],.bool false]) w:=by kernel_rfl
@[go_sem] theorem SC (v:Value) (w:World):(Instr.typeAssert (.iface 230 v) 20 4 true).run prog w= .ok (.tuple #[.bool false,.bool false]) w:=by kernel_rfl
@[go_sem] theorem Rv (v:Value) (w:World):(Instr.typeAssert (.iface 230 v) 20 96 true).run prog w= .ok (.tuple #[.agg #[.bool false,.int .u64 0],.bool false]) w:=by kernel_rfl
@[go_sem] theorem SD (v:Value) (w:World):(Instr.typeAssert (.iface 230 v) 20 226 true).run prog w= .ok (.tuple #[.string ⟨#[]⟩,.bool false]) w:=by kernel_rfl
@[go_sem] theorem SE (v:Value) (w:World):(Instr.typeAssert (.iface 230 v) 20 230 true).run prog w= .ok (.tuple #[v,.bool true]) w:=by kernel_rfl
@[go_sem] theorem xF (v:Value) (w:World):(Instr.typeAssert (.iface 230 v) 20 215 true).run prog w= .ok (.tuple #[.agg #[.bool false,.int .i64 0],.bool false]) w:=by kernel_rfl
@[go_sem] theorem xG (v:Value) (w:World):(Instr.typeAssert (.iface 230 v) 20 218 true).run prog w= .ok (.tuple #[.agg #[],.bool false]) w:=by kernel_rfl
@[go_sem] theorem Rw (v:Value) (w:World):(Instr.typeAssert (.iface 215 v) 20 4 true).run prog w= .ok (.tuple #[.bool false,.bool false]) w:=by kernel_rfl
@[go_sem] theorem NT (v:Value) (w:World):(Instr.typeAssert (.iface 215 v) 20 96 true).run prog w= .ok (.tuple #[.agg #[.bool false,.int .u64 0],.bool false]) w:=by kernel_rfl
@[go_sem] theorem Rx (v:Value) (w:World):(Instr.typeAssert (.iface 215 v) 20 226 true).run prog w= .ok (.tuple #[.string ⟨#[]⟩,.bool false]) w:=by kernel_rfl
@[go_sem] theorem Ry (v:Value) (w:World):(Instr.typeAssert (.iface 215 v) 20 230 true).run prog w= .ok (.tuple #[.string ⟨#[]⟩,.bool false]) w:=by kernel_rfl
@[go_sem] theorem nX (v:Value) (w:World):(Instr.typeAssert (.iface 215 v) 20 215 true).run prog w= .ok (.tuple #[v,.bool true]) w:=by kernel_rfl
@[go_sem] theorem nY (v:Value) (w:World):(Instr.typeAssert (.iface 215 v) 20 218 true).run prog w= .ok (.tuple #[.agg #[],.bool false]) w:=by kernel_rfl
@[go_sem] theorem Rz (v:Value) (w:World):(Instr.typeAssert (.iface 218 v) 20 4 true).run prog w= .ok (.tuple #[.bool false,.bool false]) w:=by kernel_rfl
@[go_sem] theorem NU (v:Value) (w:World):(Instr.typeAssert (.iface 218 v) 20 96 true).run prog w= .ok (.tuple #[.agg #[.bool false,.int .u64 0],.bool false]) w:=by kernel_rfl
@[go_sem] theorem RA (v:Value) (w:World):(Instr.typeAssert (.iface 218 v) 20 226 true).run prog w= .ok (.tuple #[.string ⟨#[]⟩,.bool false]) w:=by kernel_rfl
@[go_sem] theorem RB (v:Value) (w:World):(Instr.typeAssert (.iface 218 v) 20 230 true).run prog w= .ok (.tuple #[.string ⟨#[]⟩,.bool false]) w:=by kernel_rfl
@[go_sem] theorem uX (v:Value) (w:World):(Instr.typeAssert (.iface 218 v) 20 215 true).run prog w= .ok (.tuple #[.agg #[.bool false,.int .i64 0],.bool false]) w:=by kernel_rfl
@[go_sem] theorem uY (v:Value) (w:World):(Instr.typeAssert (.iface 218 v) 20 218 true).run prog w= .ok (.tuple #[v,.bool true]) w:=by kernel_rfl
@[go_sem] theorem UU (w:World):(Instr.typeAssert .nilIface 20 4 true).run prog w= .ok (.tuple #[.bool false,.bool false]) w:=by kernel_rfl
@[go_sem] theorem SF (w:World):(Instr.typeAssert .nilIface 20 96 true).run prog w= .ok (.tuple #[.agg #[.bool false,.int .u64 0],.bool false]) w:=by kernel_rfl
@[go_sem] theorem UW (w:World):(Instr.typeAssert .nilIface 20 226 true).run prog w= .ok (.tuple #[.string ⟨#[]⟩,.bool false]) w:=by kernel_rfl
@[go_sem] theorem UX (w:World):(Instr.typeAssert .nilIface 20 230 true).run prog w= .ok (.tuple #[.string ⟨#[]⟩,.bool false]) w:=by kernel_rfl
@[go_sem] theorem zC (w:World):(Instr.typeAssert .nilIface 20 215 true).run prog w= .ok (.tuple #[.agg #[.bool false,.int .i64 0],.bool false]) w:=by kernel_rfl
@[go_sem] theorem zD (w:World):(Instr.typeAssert .nilIface 20 218 true).run prog w= .ok (.tuple #[.agg #[],.bool false]) w:=by kernel_rfl
@[go_sem] theorem UY (v:Value) (w:World):(Instr.typeAssert (.iface 3 v) 20 4 true).run prog w= .ok (.tuple #[.bool false,.bool false]) w:=by kernel_rfl
@[go_sem] theorem SG (v:Value) (w:World):(Instr.typeAssert (.iface 3 v) 20 96 true).run prog w= .ok (.tuple #[.agg #[.bool false,.int .u64 0],.bool false]) w:=by kernel_rfl
@[go_sem] theorem UZ (v:Value) (w:World):(Instr.typeAssert (.iface 3 v) 20 226 true).run prog w= .ok (.tuple #[.string ⟨#[]⟩,.bool false]) w:=by kernel_rfl
@[go_sem] theorem U0 (v:Value) (w:World):(Instr.typeAssert (.iface 3 v) 20 230 true).run prog w= .ok (.tuple #[.string ⟨#[]⟩,.bool false]) w:=by kernel_rfl
@[go_sem] theorem SH (v:Value) (w:World):(Instr.typeAssert (.iface 3 v) 20 215 true).run prog w= .ok (.tuple #[.agg #[.bool false,.int .i64 0],.bool false]) w:=by kernel_rfl
@[go_sem] theorem SI (v:Value) (w:World):(Instr.typeAssert (.iface 3 v) 20 218 true).run prog w= .ok (.tuple #[.agg #[],.bool false]) w:=by kernel_rfl
@[go_sem] theorem NV (v:Value) (w:World):(Instr.typeAssert (.iface 9 v) 20 4 true).run prog w= .ok (.tuple #[.bool false,.bool false]) w:=by kernel_rfl
@[go_sem] theorem M0 (v:Value) (w:World):(Instr.typeAssert (.iface 9 v) 20 96 true).run prog w= .ok (.tuple #[.agg #[.bool false,.int .u64 0],.bool false]) w:=by kernel_rfl
@[go_sem] theorem NW (v:Value) (w:World):(Instr.typeAssert (.iface 9 v) 20 226 true).run prog w= .ok (.tuple #[.string ⟨#[]⟩,.bool false]) w:=by kernel_rfl
@[go_sem] theorem NX (v:Value) (w:World):(Instr.typeAssert (.iface 9 v) 20 230 true).run prog w= .ok (.tuple #[.string ⟨#[]⟩,.bool false]) w:=by kernel_rfl
@[go_sem] theorem M1 (v:Value) (w:World):(Instr.typeAssert (.iface 9 v) 20 215 true).run prog w= .ok (.tuple #[.agg #[.bool false,.int .i64 0],.bool false]) w:=by kernel_rfl
@[go_sem] theorem M3 (v:Value) (w:World):(Instr.typeAssert (.iface 9 v) 20 218 true).run prog w= .ok (.tuple #[.agg #[],.bool false]) w:=by kernel_rfl
end Go.Proofs.YthffblhdjjbkaaaGreat
namespace Go.Tru
structure Ev where
 kind:Int
 yes:Bool
 jM:Int
 text:ByteArray
 count:Int
def Ev.cells (e:Ev):List Value:=[.int .i64 e.kind,.bool e.yes,.int .u64 e.jM,.string e.text,.int .i64 e.count]
def Ev.val (e:Ev):Value:= .agg e.cells.toArray
def aY:ByteArray:=⟨#[]⟩
def ar:Ev:=⟨0,false,0,aY,0⟩
def aq (b:Bool):Ev:=⟨1,b,0,aY,0⟩
def ay (neg:Bool) (jM:Int):Ev:=⟨2,neg,jM,aY,0⟩
def ah (s:ByteArray):Ev:=⟨3,false,0,s,0⟩
def dv (s:ByteArray):Ev:=⟨4,false,0,s,0⟩
def aN (n:Int):Ev:=⟨5,false,0,aY,n⟩
def aO (n:Int):Ev:=⟨6,false,0,aY,n⟩
def aL:Ev:=⟨7,false,0,aY,0⟩
def Clear (e:Ev):Prop:=
 e=ar∨(∃b,e=aq b)∨(∃n m,e=ay n m)∨(∃s,e=ah s)∨(∃s,e=dv s)∨(∃n,-1≤n∧e=aN n)∨(∃n,-1≤n∧e=aO n)∨e=aL
def Ev.part (e:Ev):Value:=
 if e.kind=0 then .nilIface
 else if e.kind=1 then .iface 4 (.bool e.yes)
 else if e.kind=2 then .iface 96 (.agg #[.bool e.yes,.int .u64 e.jM])
 else if e.kind=3 then .iface 226 (.string e.text)
 else if e.kind=4 then .iface 230 (.string e.text)
 else if e.kind=5 then .iface 215 (.agg #[.bool false,.int .i64 e.count])
 else if e.kind=6 then .iface 215 (.agg #[.bool true,.int .i64 e.count])
 else .iface 218 (.agg #[])
theorem fU:ar.part= .nilIface:=rfl
theorem ft (b:Bool):(aq b).part= .iface 4 (.bool b):=rfl
theorem fq (n:Bool) (m:Int):(ay n m).part= .iface 96 (.agg #[.bool n,.int .u64 m]):=rfl
theorem fr (s:ByteArray):(ah s).part= .iface 226 (.string s):=rfl
theorem F3 (s:ByteArray):(dv s).part= .iface 230 (.string s):=rfl
theorem eC (n:Int):(aN n).part= .iface 215 (.agg #[.bool false,.int .i64 n]):=rfl
theorem eD (n:Int):(aO n).part= .iface 215 (.agg #[.bool true,.int .i64 n]):=rfl
theorem iQ:aL.part= .iface 218 (.agg #[]):=rfl
end Go.Tru
namespace Go.Proofs.YthffblhdjjbkaaaGreat
open Go.RowKit Go.Tru
theorem F5 (w:World):Calls prog 115 #[ar.part] w fun r w'=>r= .returned (.tuple #[ar.val,.bool true])∧I [] w w':=by rw[fU];go_enter func115,ntmps115;go_wp2;refine bodyPost_ret (v:= .tuple #[ar.val,.bool true]) (by simp[results,Tryz.results115,go_sem];first|done|rfl|simp[Ev.val,Ev.cells,ar,aq,ay,ah,dv,aN,aO,aL,aY]) rfl ⟨rfl,?_⟩;repeat first|exact I.refl _ _|apply I.alloc
theorem F6 (b:Bool) (w:World):Calls prog 115 #[(aq b).part] w fun r w'=>r= .returned (.tuple #[(aq b).val,.bool true])∧I [] w w':=by rw[ft];go_enter func115,ntmps115;go_wp2;refine bodyPost_ret (v:= .tuple #[(aq b).val,.bool true]) (by simp[results,Tryz.results115,go_sem];first|done|rfl|simp[Ev.val,Ev.cells,ar,aq,ay,ah,dv,aN,aO,aL,aY]) rfl ⟨rfl,?_⟩;repeat first|exact I.refl _ _|apply I.alloc
theorem KB (n:Bool) (m:Int) (w:World):Calls prog 115 #[(ay n m).part] w fun r w'=>r= .returned (.tuple #[(ay n m).val,.bool true])∧I [] w w':=by rw[fq];go_enter func115,ntmps115;go_wp2;refine bodyPost_ret (v:= .tuple #[(ay n m).val,.bool true]) (by simp[results,Tryz.results115,go_sem];first|done|rfl|simp[Ev.val,Ev.cells,ar,aq,ay,ah,dv,aN,aO,aL,aY]) rfl ⟨rfl,?_⟩;repeat first|exact I.refl _ _|apply I.alloc
theorem F7 (s:ByteArray) (w:World):Calls prog 115 #[(ah s).part] w fun r w'=>r= .returned (.tuple #[(ah s).val,.bool true])∧I [] w w':=by rw[fr];go_enter func115,ntmps115;go_wp2;refine bodyPost_ret (v:= .tuple #[(ah s).val,.bool true]) (by simp[results,Tryz.results115,go_sem];first|done|rfl|simp[Ev.val,Ev.cells,ar,aq,ay,ah,dv,aN,aO,aL,aY]) rfl ⟨rfl,?_⟩;repeat first|exact I.refl _ _|apply I.alloc
theorem Cn (s:ByteArray) (w:World):Calls prog 115 #[(dv s).part] w fun r w'=>r= .returned (.tuple #[(dv s).val,.bool true])∧I [] w w':=by rw[F3];go_enter func115,ntmps115;go_wp2;refine bodyPost_ret (v:= .tuple #[(dv s).val,.bool true]) (by simp[results,Tryz.results115,go_sem];first|done|rfl|simp[Ev.val,Ev.cells,ar,aq,ay,ah,dv,aN,aO,aL,aY]) rfl ⟨rfl,?_⟩;repeat first|exact I.refl _ _|apply I.alloc
theorem KC (n:Int) (hn: -1≤n) (w:World):Calls prog 115 #[(aN n).part] w fun r w'=>r= .returned (.tuple #[(aN n).val,.bool true])∧I [] w w':=by rw[eC];go_enter func115,ntmps115;go_wp2;refine bodyPost_ret (v:= .tuple #[(aN n).val,.bool true]) (by simp[results,Tryz.results115,go_sem];first|done|rfl|simp[Ev.val,Ev.cells,ar,aq,ay,ah,dv,aN,aO,aL,aY]) rfl ⟨rfl,?_⟩;repeat first|exact I.refl _ _|apply I.alloc
theorem KE (n:Int) (hn: -1≤n) (w:World):Calls prog 115 #[(aO n).part] w fun r w'=>r= .returned (.tuple #[(aO n).val,.bool true])∧I [] w w':=by rw[eD];go_enter func115,ntmps115;go_wp2;refine bodyPost_ret (v:= .tuple #[(aO n).val,.bool true]) (by simp[results,Tryz.results115,go_sem];first|done|rfl|simp[Ev.val,Ev.cells,ar,aq,ay,ah,dv,aN,aO,aL,aY]) rfl ⟨rfl,?_⟩;repeat first|exact I.refl _ _|apply I.alloc
theorem KG (w:World):Calls prog 115 #[aL.part] w fun r w'=>r= .returned (.tuple #[aL.val,.bool true])∧I [] w w':=by rw[iQ];go_enter func115,ntmps115;go_wp2;refine bodyPost_ret (v:= .tuple #[aL.val,.bool true]) (by simp[results,Tryz.results115,go_sem];first|done|rfl|simp[Ev.val,Ev.cells,ar,aq,ay,ah,dv,aN,aO,aL,aY]) rfl ⟨rfl,?_⟩;repeat first|exact I.refl _ _|apply I.alloc
theorem aK (p:Ev) (h:Clear p) (w:World):Calls prog 115 #[p.part] w fun r w'=>r= .returned (.tuple #[p.val,.bool true])∧I [] w w':=by
 rcases h with rfl|⟨b,rfl⟩|⟨n,m,rfl⟩|⟨s,rfl⟩|⟨s,rfl⟩|⟨n,hn,rfl⟩|⟨n,hn,rfl⟩|rfl
 ·exact F5 w
 ·exact F6 b w
 ·exact KB n m w
 ·exact F7 s w
 ·exact Cn s w
 ·exact KC n hn w
 ·exact KE n hn w
 ·exact KG w
end Go.Proofs.YthffblhdjjbkaaaGreat
namespace Go.Tru
/-! ### a slice of parts -/
structure mC (w:World) (o:Option Addr) (n c:Nat) (es:List Ev):Prop where
 len:es.length=n
 room:n≤c
 nV:c≤maxLen
 at_:n=0∨∃b off,o=some ⟨b,off,none⟩∧b<w.heap.size∧∀ (i:Nat) (e:Ev),es[i]? =some e→∀ (j:Nat) (v:Value),e.cells[j]? =some v→w.cell? ⟨b,off+i*5+j,none⟩=some v
theorem mC.keeps {w w':World} {o:Option Addr} {n c:Nat} {es:List Ev} (h:mC w o n c es) (k:I [] w w'):mC w' o n c es:=⟨h.len,h.room,h.nV,h.at_.imp id fun⟨b,off,h1,h2,h3⟩=>⟨b,off,h1,Nat.lt_of_lt_of_le h2 k.size,fun i e he j v hv=>k.cell (h3 i e he j v hv) (by simp)⟩⟩
theorem mC.get {w:World} {o:Option Addr} {n c:Nat} {es:List Ev} (h:mC w o n c es) {k:Nat} (hk:k<n) (xj:k<es.length): ∃b off,o=some ⟨b,off,none⟩∧w.cell? ⟨b,off+k*5,none⟩=some (.int .i64 es[k].kind)∧w.cell? ⟨b,off+k*5+1,none⟩=some (.bool es[k].yes)∧w.cell? ⟨b,off+k*5+2,none⟩=some (.int .u64 es[k].jM)∧w.cell? ⟨b,off+k*5+3,none⟩=some (.string es[k].text)∧w.cell? ⟨b,off+k*5+4,none⟩=some (.int .i64 es[k].count):=by
 rcases h.at_ with h0|⟨b,off,h1,_,h3⟩
 ·omega
 ·have h4:=h3 k _ (List.getElem?_eq_getElem xj);exact⟨b,off,h1,h4 0 _ rfl,h4 1 _ rfl,h4 2 _ rfl,h4 3 _ rfl,h4 4 _ rfl⟩
def Ev.Fit (e:Ev):Prop:=(-9223372036854775808≤e.kind∧e.kind≤9223372036854775807)∧(0≤e.jM∧e.jM≤18446744073709551615)∧e.text.size≤maxLen∧(-9223372036854775808≤e.count∧e.count≤9223372036854775807)
theorem Ev.gK (e:Ev):e.cells.length=5:=rfl
theorem Co (es:List Ev):(es.flatMap Ev.cells).length=es.length*5:=by
 induction es with
 |nil=>rfl
 |cons e es ih=>rw[List.flatMap_cons,List.length_append,ih,Ev.gK,List.length_cons];omega
theorem Cp (es:List Ev): ∀ (i:Nat) (e:Ev),es[i]? =some e→∀ (j:Nat) (v:Value),e.cells[j]? =some v→(es.flatMap Ev.cells)[i*5+j]? =some v:=by
 induction es with
 |nil=>intro i e h;cases i<;>cases h
 |cons x es ih=>
  intro i e h j v hv;rw[List.flatMap_cons];have hj:j<5:=by have:=(List.getElem?_eq_some_iff.1 hv).1;rwa [Ev.gK] at this
  cases i with
  |zero=>simp only[List.getElem?_cons_zero,Option.some.injEq] at h;subst h;rw[List.getElem?_append_left (by rw[Ev.gK];omega)];simpa using hv
  |succ i=>
   rw[List.getElem?_append_right (by rw[Ev.gK];omega),Ev.gK];have:(i+1)*5+j-5=i*5+j:=by omega
   rw[this];exact ih i e (by simpa using h) j v hv
theorem xH {w:World} {B E:Nat} {v:Value} {es:List Ev} (h:w.ownsRow B E 5 v es.length (es.flatMap Ev.cells)): ∃o c,v= .slice o es.length c∧mC w o es.length c es:=by
 have dD:=h.lt;rcases h.2 with⟨rfl,h0⟩|⟨g,cap,cur,rfl,hb,hg,hn,hm,_⟩
 ·exact⟨none,0,by rw[h0],rfl,by omega,Nat.zero_le _,inl h0⟩
 ·refine⟨_,cap,rfl,rfl,hn,hm,inr ⟨g,0,rfl,(dD g rfl).2,fun i e he j v hv=> ?_⟩⟩;have hl:i<es.length:=(List.getElem?_eq_some_iff.1 he).1;have hj:j<5:=by have:=(List.getElem?_eq_some_iff.1 hv).1;rwa [Ev.gK] at this
  rw[Nat.zero_add,h.cellAt _ (by omega)];exact Cp es i e he j v hv
theorem mC.take {w:World} {o:Option Addr} {n c:Nat} {es:List Ev} (h:mC w o n c es) {k:Nat} (hk:k≤n):mC w o k c (es.take k):=⟨by rw[List.length_take,h.len];omega,Nat.le_trans hk h.room,h.nV,h.at_.elim (fun h0=>inl (by omega)) fun⟨b,off,h1,h2,h3⟩=>inr ⟨b,off,h1,h2,fun i e he=>h3 i e (by rw[List.getElem?_take] at he;split at he;exact he;cases he)⟩⟩
def Ev.same (a b:Ev):Bool:=decide (a.kind=b.kind∧a.yes=b.yes∧a.jM=b.jM∧a.text.data.toList=b.text.data.toList∧a.count=b.count)
def Ev.size (e:Ev):Int:=1+e.text.size
end Go.Tru
namespace Go.Proofs.YthffblhdjjbkaaaGreat
open Go.RowKit Go.Tru
@[go_sem] theorem YD (s:ByteArray) (w:World):(Instr.typeAssert (.iface 226 (.string s)) 20 226 false).run prog w= .ok (.string s) w:=by kernel_rfl
theorem NY (p:Ev) (h:Clear p) (hs:p.text.size≤maxLen-1) (w:World):Calls prog 121 #[p.part] w fun r w'=>r= .returned (.int .i64 p.size)∧I [] w w':=by
 unfold maxLen at hs;go_enter func121,ntmps121;go_wp2_with fail
 refine(aK p h w).mono ?_;rintro e w1 ⟨rfl,k1⟩;have K1:=hid k1;clear k1;simp only[Ev.val,Ev.cells];go_wp2_with fail
 go_ret;exact⟨nh (by unfold Ev.size;omega),K1.out.alloc _⟩
end Go.Proofs.YthffblhdjjbkaaaGreat
namespace Go.Tru
def nx:List Int→Nat×List Int
 | []=>(0,[])
 |x::r=>((x % 65536).toNat,r)
theorem kP (l:List Int):(nx l).1<65536:=by
 cases l with
 |nil=>simp[nx]
 |cons x r=>simp only[nx];omega
theorem uM {l:List Int}:(nx l).2.length≤l.length:=by cases l<;>simp[nx]
theorem I9 {l:List Int} (h:(nx l).1≠0):(nx l).2.length+1=l.length:=by cases l<;>simp[nx] at*
def fZ:Nat→List UInt8
 |0=>[97]
 |1=>[34]
 |2=>[92]
 |3=>[10]
 |4=>[195,169]
 |5=>[1]
 |6=>[240,157,132,158]
 |_=>[122]
def fy (x:Nat):Nat→List UInt8
 |0=>[]
 |k+1=>fZ (x>>>(k+1) % 8)++fy x k
def cF (x:Nat):ByteArray:=⟨(fy x (x % 8)).toArray⟩
theorem F8 (n:Nat):(fZ n).length≤4:=by unfold fZ;split<;>simp
theorem pM (x:Nat): ∀k,(fy x k).length≤4*k
 |0=>by simp[fy]
 |k+1=>by have h1:=pM x k;have h2:=F8 (x>>>(k+1) % 8);simp only[fy,List.length_append];omega
theorem gL (x:Nat):(cF x).size≤28:=by
 have:=pM x (x % 8);have e:(cF x).size=(fy x (x % 8)).length:=by unfold cF;simp[ByteArray.size]
 omega
def rep (f:List Int→List Ev×List Int):Nat→List Int→List Ev×List Int
 |0,l=>([],l)
 |n+1,l=>((f l).1++(rep f n (f l).2).1,(rep f n (f l).2).2)
def cx (f:List Int→List Ev×List Int) (l:List Int):List Ev×List Int:=
 (ah (cF (nx l).1)::(f (nx l).2).1,(f (nx l).2).2)
def cE (x:Nat):List Ev:=
 if x % 8=0 then [ar]
 else if x % 8=1 then [aq (decide (x/8 % 2=1))]
 else if x % 8=2∨x % 8=3 then [ay (decide (x/8 % 2=1)) (((x*x)>>>(x % 8):Nat):Int)]
 else if x % 8=4 then [ah (cF x)]
 else if x % 8=5 then [ah aY]
 else [ay false x]
def aE:Nat→List Int→List Ev×List Int
 |0,l=>(cE (nx l).1,(nx l).2)
 |k+1,l=>
  if(nx l).1 % 8<5 then(cE (nx l).1,(nx l).2)
  else if(nx l).1 % 8=5 then
   let r:=rep (aE k) ((nx l).1/8 % 4) (nx l).2
   (aN (((nx l).1/8 % 4:Nat):Int)::r.1++[aL],r.2)
  else
   let r:=rep (cx (aE k)) ((nx l).1/8 % 3) (nx l).2
   (aO (((nx l).1/8 % 3:Nat):Int)::r.1++[aL],r.2)
def doc (l:List Int) (depth:Nat):List Ev:=(aE depth l).1
theorem lO (x:Nat):(cE x).length=1:=by
 unfold cE;repeat' split
 all_goals rfl
theorem qw {f:List Int→List Ev×List Int} {a:Nat} (h: ∀l,(f l).1.length+8*(f l).2.length≤a+8*l.length): ∀n l,(rep f n l).1.length+8*(rep f n l).2.length≤a*n+8*l.length
 |0,l=>by simp[rep]
 |n+1,l=>by have h1:=h l;have h2:=qw h n (f l).2;simp only[rep,List.length_append,Nat.mul_add,Nat.mul_one];omega
theorem lG: ∀k l,(aE k l).1.length+8*(aE k l).2.length≤1+8*l.length
 |0,l=>by have:=uM (l:=l);simp only[aE,lO];omega
 |k+1,l=>by
  have h0:=uM (l:=l);have ih:=lG k;unfold aE;by_cases h5:(nx l).1 % 8<5
  ·rw[if_pos h5];simp only[lO];omega
  rw[if_neg h5];have hu:=I9 (l:=l) (by intro e;rw[e] at h5;simp at h5);by_cases h6:(nx l).1 % 8=5
  ·rw[if_pos h6];have h1:=qw ih ((nx l).1/8 % 4) (nx l).2;simp only[List.length_cons,List.length_append,List.length_nil];omega
  ·rw[if_neg h6];have h2: ∀l,(cx (aE k) l).1.length+8*(cx (aE k) l).2.length≤2+8*l.length:=fun l=>by have h3:=ih (nx l).2;have h4:=uM (l:=l);simp only[cx,List.length_cons];omega
   have h1:=qw h2 ((nx l).1/8 % 3) (nx l).2;simp only[List.length_cons,List.length_append,List.length_nil];omega
/-! ### what its parts are -/
def Jh (p:Ev):Prop:=Clear p∧((p.kind=5∨p.kind=6)→0≤p.count)∧p.text.size≤28
theorem KH (x:Nat): ∀p∈cE x,Jh p:=by
 intro p hp;have h0:aY.size=0:=rfl;unfold cE at hp;repeat' split at hp
 all_goals rw[List.mem_singleton] at hp;subst hp
 ·exact⟨inl rfl,by decide,by simp[ar,h0]⟩
 ·exact⟨inr (inl ⟨_,rfl⟩),by simp[aq],by simp[aq,h0]⟩
 ·exact⟨inr (inr (inl ⟨_,_,rfl⟩)),by simp[ay],by simp[ay,h0]⟩
 ·exact⟨inr (inr (inr (inl ⟨_,rfl⟩))),by simp[ah],by simpa[ah] using gL x⟩
 ·exact⟨inr (inr (inr (inl ⟨_,rfl⟩))),by simp[ah],by simp[ah,h0]⟩
 ·exact⟨inr (inr (inl ⟨_,_,rfl⟩)),by simp[ay],by simp[ay,h0]⟩
theorem rT {f:List Int→List Ev×List Int} {P:Ev→Prop} (h: ∀l,∀p∈(f l).1,P p): ∀n l,∀p∈(rep f n l).1,P p
 |0,l=>by simp[rep]
 |n+1,l=>by
  intro p hp;simp only[rep,List.mem_append] at hp;rcases hp with hp|hp
  ·exact h l p hp
  ·exact rT h n _ p hp
theorem uZ (n:Int):bits .and .i64 n 7=n % 8:=Cq 3 (by decide) n
theorem zE (n:Int):bits .and .i64 n 65535=n % 65536:=Cq 16 (by decide) n
theorem NZ (x k:Nat) (hk:k≤7):bits .and .i64 ((x:Int)/2^(k % 8)) 7=0∧fZ (x>>>k % 8)= [97]∨bits .and .i64 ((x:Int)/2^(k % 8)) 7=1∧fZ (x>>>k % 8)= [34]∨bits .and .i64 ((x:Int)/2^(k % 8)) 7=2∧fZ (x>>>k % 8)= [92]∨bits .and .i64 ((x:Int)/2^(k % 8)) 7=3∧fZ (x>>>k % 8)= [10]∨bits .and .i64 ((x:Int)/2^(k % 8)) 7=4∧fZ (x>>>k % 8)= [195,169]∨bits .and .i64 ((x:Int)/2^(k % 8)) 7=5∧fZ (x>>>k % 8)= [1]∨bits .and .i64 ((x:Int)/2^(k % 8)) 7=6∧fZ (x>>>k % 8)= [240,157,132,158]∨bits .and .i64 ((x:Int)/2^(k % 8)) 7=7∧fZ (x>>>k % 8)= [122]:=by
 have e:((x:Int)/2^(k % 8))=((x>>>k:Nat):Int):=by rw[Nat.mod_eq_of_lt (by omega),Nat.shiftRight_eq_div_pow,Int.natCast_ediv,Int.natCast_pow];rfl
 rw[uZ,e];have hj:x>>>k % 8<8:=Nat.mod_lt _ (by decide);have e2:((x>>>k:Nat):Int) % 8=((x>>>k % 8:Nat):Int):=by omega
 rw[e2];generalize x>>>k % 8=j at hj;match j,hj with
 |0,_=>exact inl ⟨rfl,rfl⟩
 |1,_=>exact inr (inl ⟨rfl,rfl⟩)
 |2,_=>exact inr (inr (inl ⟨rfl,rfl⟩))
 |3,_=>exact inr (inr (inr (inl ⟨rfl,rfl⟩)))
 |4,_=>exact inr (inr (inr (inr (inl ⟨rfl,rfl⟩))))
 |5,_=>exact inr (inr (inr (inr (inr (inl ⟨rfl,rfl⟩)))))
 |6,_=>exact inr (inr (inr (inr (inr (inr (inl ⟨rfl,rfl⟩))))))
 |7,_=>exact inr (inr (inr (inr (inr (inr (inr ⟨rfl,rfl⟩))))))
end Go.Tru
namespace Go.Proofs.YthffblhdjjbkaaaGreat
open Go.RowKit Go.Tru
def SJ (x:Nat) (w:World) (v i:Value) (wr:World):Prop:=
 ∃ (k:Nat) (t:ByteArray),k≤x % 8∧i= .int .i64 k∧v= .string t∧t.data.toList++fy x k=fy x (x % 8)∧t.size≤28∧I [] w wr
theorem KI {x k:Nat} {t:ByteArray} (h:t.data.toList++fy x k=fy x (x % 8)):t.size≤28:=by have h1:=congrArg List.length h;have h2:=pM x (x % 8);rw[List.length_append,Array.length_toList] at h1;have h3:t.size=t.data.size:=rfl;omega
theorem sP (x:Nat) (w:World):Calls prog 21 #[.int .i64 x] w fun e w'=>e= .returned (.string (cF x))∧I [] w w':=by
 have h7:bits .and .i64 (x:Int) 7=((x % 8:Nat):Int):=by rw[uZ];omega
 go_enter func21,ntmps21;go_wp2_with fail
 go_loopw [3,4] (fun v i wr=>SJ x w v i wr) (fun _ i _=>(intOf i).toNat);case atStart=>exact⟨x % 8,⟨#[]⟩,Nat.le_refl _,by first|rfl|(simp;done)|(rw[h7]),rfl,by simp,by simp[ByteArray.size],I.refl _ _⟩
 case round=>
  obtain⟨k,t,hk,rfl,rfl,ht,hz,hK⟩:=hrel;by_cases h0:0<k
  ·obtain⟨k',rfl⟩: ∃k',k=k'+1:=⟨k-1,by omega⟩
   have adz:=NZ x (k'+1) (by omega);have HT:=hid ht;have HK:=hid hK;clear ht hK h7;rcases adz with⟨hb,hd⟩|⟨hb,hd⟩|⟨hb,hd⟩|⟨hb,hd⟩|⟨hb,hd⟩|⟨hb,hd⟩|⟨hb,hd⟩|⟨hb,hd⟩;all_goals
    have HD:=hid hd;clear hd;go_wp2_with fail
    go_roundw;case rel=>
     have dq:(t++⟨(fZ (x>>>(k'+1) % 8)).toArray⟩).data.toList++fy x k'=fy x (x % 8):=by rw[←HT.out];simp[fy]
     have lx:=KI dq;rw[HD.out] at dq lx;exact⟨k',_,by omega,by go_num,rfl,dq,lx,HK.out.alloc _⟩
    case measure=>simp[intOf]
  ·obtain rfl:k=0:=by omega
   have hdt:t=cF x:=by unfold cF;rw[←ht];cases t;simp[fy]
   have HD:=hid hdt;have HK:=hid hK;clear hdt hK ht h7;go_wp2_with fail
   go_ret;exact⟨by rw[←HD.out];rfl,HK.out⟩
end Go.Proofs.YthffblhdjjbkaaaGreat
namespace Go.Tru
theorem N0 (p:Ev):p.part.oneCell'=true:=by
 unfold Ev.part;repeat' split
 all_goals rfl
theorem KJ (ps:List Ev): ∀u∈ps.map Ev.part,u.oneCell'=true:=by intro u hu;obtain⟨p,_,rfl⟩:=List.mem_map.1 hu;exact N0 p
def aP (w:World) (base:Nat) (v:Value) (ps:List Ev):Prop:=w.ownsRow base 20 1 v ps.length (ps.map Ev.part)
theorem aP.nil (w:World) (base:Nat):aP w base (.slice none 0 0) []:=World.ownsRow_nil _ _ _ _
structure kV (w:World) (o:Option Addr) (n c:Nat) (ps:List Ev):Prop where
 len:ps.length=n
 room:n≤c
 nV:c≤maxLen
 at_:n=0∨∃b off,o=some ⟨b,off,none⟩∧b<w.heap.size∧∀ (i:Nat) (p:Ev),ps[i]? =some p→w.cell? ⟨b,off+i,none⟩=some p.part
theorem kV.keeps {w w':World} {o:Option Addr} {n c:Nat} {ps:List Ev} (h:kV w o n c ps) (k:I [] w w'):kV w' o n c ps:=⟨h.len,h.room,h.nV,h.at_.imp id fun⟨b,off,h1,h2,h3⟩=>⟨b,off,h1,Nat.lt_of_lt_of_le h2 k.size,fun i p hp=>k.cell (h3 i p hp) (by simp)⟩⟩
theorem kV.get {w:World} {o:Option Addr} {n c:Nat} {ps:List Ev} (h:kV w o n c ps) {k:Nat} (hk:k<n) (xj:k<ps.length): ∃b off,o=some ⟨b,off,none⟩∧w.cell? ⟨b,off+k,none⟩=some ps[k].part:=by
 rcases h.at_ with h0|⟨b,off,h1,_,h3⟩
 ·omega
 ·exact⟨b,off,h1,h3 k _ (List.getElem?_eq_getElem xj)⟩
theorem kV.nil (w:World):kV w none 0 0 []:=⟨rfl,Nat.le_refl _,Nat.zero_le _,inl rfl⟩
theorem vb {w:World} {B:Nat} {v:Value} {ps:List Ev} (h:aP w B v ps): ∃o c,v= .slice o ps.length c∧kV w o ps.length c ps:=by
 have dD:=h.lt;rcases h.2 with⟨rfl,h0⟩|⟨g,cap,cur,rfl,hb,hg,hn,hm,_⟩
 ·exact⟨none,0,by rw[h0],rfl,by omega,Nat.zero_le _,inl h0⟩
 ·refine⟨_,cap,rfl,rfl,hn,hm,inr ⟨g,0,rfl,(dD g rfl).2,fun i p hp=> ?_⟩⟩;have hl:i<ps.length:=(List.getElem?_eq_some_iff.1 hp).1;rw[Nat.zero_add,World.ownsRow.cellAt h i (by omega)];simp[hp]
theorem vd {w:World} {b:Nat} {ps:List Ev} {t:TypeId} (h:Has w b (ps.map Ev.part) t) {n:Nat} (hn:ps.length=n) (hm:n≤maxLen):kV w (some ⟨b,0,none⟩) n n ps:=⟨hn,Nat.le_refl _,hm,inr ⟨b,0,rfl,h.lt,fun i p hp=>by rw[Nat.zero_add,h.cell];simp[hp]⟩⟩
theorem aP.shape {w:World} {base:Nat} {v:Value} {ps:List Ev} (h:aP w base v ps): ∃a cap,v= .slice a ps.length cap:=by
 rcases h.2 with⟨h1,h2⟩|⟨g,cap,cur,h1,_⟩
 ·exact⟨none,0,by rw[h1,h2]⟩
 ·exact⟨_,_,h1⟩
end Go.Tru
namespace Go.Proofs.YthffblhdjjbkaaaGreat
open Go.RowKit Go.Tru
theorem Cr:(Tryz.prog.info? 20).map (fun i=>(i.zero,i.size,i.bytes))=some (some .nilIface,1,16):=by kernel_rfl
theorem nj {ops:Array Oper} {rest:List Oper} {o:Oper} {a:Act} {w:World} {Q:Exit→Act→World→Prop} (sU:o.guard=none) (s x:Operand) (ho:o.op= .call {callee:= .builtin .append,args:= #[s,x],argTypes:= #[146,146]}) (base:Nat) (v:Value) (es:List Ev) (hs:a.eval s=v) (au:aP w base v es) (ad:Addr) (m c:Nat) (ds:List Ev) (hx:a.eval x= .slice (some ad) m c) (hl:ds.length=m) (fO: ∀ (j:Nat) (u:Value),(ds.map Ev.part)[j]? =some u→w.cell? (ad.add j)=some u) (hlen:es.length+m≤1000000000) (ak:base≤w.heap.size) (h: ∀v' w',aP w' base v' (es++ds)→I (ae v) w w'→(v'= .slice none 0 0↔v= .slice none 0 0∧m=0)→(v'.ownBlock=v.ownBlock∨v'.ownBlock=some w.heap.size)→wpList prog ops Q rest (a.put o.dst v') w'):wpList prog ops Q (o::rest) a w:=by obtain⟨i0,hi,ko,gv,gW⟩:=info_parts Cr;subst hl;refine wpList_append_own_at w sU s x 146 ho base 20 i0 .nilIface 1 16 underlying146 hi ko gv gW rfl (by decide) v es.length (es.map Ev.part) hs au ad ds.length c (ds.map Ev.part) hx (by simp) fO (KJ ds) (by unfold maxLen;omega) (by omega) ak ?_;intro v' w' h2 h3 h4 h5;refine h v' w' ?_ (cD h3) h4 h5;unfold aP;rw[List.length_append,List.map_append];exact h2
end Go.Proofs.YthffblhdjjbkaaaGreat
namespace Go.Tru
theorem N2 (es:List Ev): ∀u∈es.flatMap Ev.cells,u.oneCell'=true:=by intro u hu;obtain⟨e,_,h⟩:=List.mem_flatMap.1 hu;simp only[Ev.cells,List.mem_cons,List.not_mem_nil,or_false] at h;rcases h with rfl|rfl|rfl|rfl|rfl<;>rfl
def fM (w:World) (base:Nat) (v:Value) (es:List Ev):Prop:=w.ownsRow base 34 5 v es.length (es.flatMap Ev.cells)
theorem fM.nil (w:World) (base:Nat):fM w base (.slice none 0 0) []:=World.ownsRow_nil _ _ _ _
theorem fM.shape {w:World} {base:Nat} {v:Value} {es:List Ev} (h:fM w base v es): ∃a cap,v= .slice a es.length cap:=by
 rcases h.2 with⟨h1,h2⟩|⟨g,cap,cur,h1,_⟩
 ·exact⟨none,0,by rw[h1,h2]⟩
 ·exact⟨_,_,h1⟩
end Go.Tru
namespace Go.Proofs.YthffblhdjjbkaaaGreat
open Go.RowKit Go.Tru
theorem Ji:(Tryz.prog.info? 34).map (fun i=>(i.zero,i.size,i.bytes))=some (some (.agg #[.int .i64 0,.bool false,.int .u64 0,.string ⟨#[]⟩,.int .i64 0]),5,48):=by kernel_rfl
theorem mV {ops:Array Oper} {rest:List Oper} {o:Oper} {a:Act} {w:World} {Q:Exit→Act→World→Prop} (sU:o.guard=none) (s x:Operand) (ho:o.op= .call {callee:= .builtin .append,args:= #[s,x],argTypes:= #[30,30]}) (base:Nat) (v:Value) (es:List Ev) (hs:a.eval s=v) (au:fM w base v es) (ad:Addr) (m c:Nat) (ds:List Ev) (hx:a.eval x= .slice (some ad) m c) (hl:ds.length=m) (fO: ∀ (j:Nat) (u:Value),(ds.flatMap Ev.cells)[j]? =some u→w.cell? (ad.add j)=some u) (hlen:es.length+m≤1000000000) (ak:base≤w.heap.size) (h: ∀v' w',fM w' base v' (es++ds)→I (ae v) w w'→(v'= .slice none 0 0↔v= .slice none 0 0∧m=0)→(v'.ownBlock=v.ownBlock∨v'.ownBlock=some w.heap.size)→wpList prog ops Q rest (a.put o.dst v') w'):wpList prog ops Q (o::rest) a w:=by obtain⟨i0,hi,ko,gv,gW⟩:=info_parts Ji;subst hl;refine wpList_append_own_at w sU s x 30 ho base 34 i0 (.agg #[.int .i64 0,.bool false,.int .u64 0,.string ⟨#[]⟩,.int .i64 0]) 5 48 underlying30 hi ko gv gW rfl (by decide) v es.length (es.flatMap Ev.cells) hs au ad ds.length c (ds.flatMap Ev.cells) hx (Co ds) fO (N2 ds) (by unfold maxLen;omega) (by omega) ak ?_;intro v' w' h2 h3 h4 h5;refine h v' w' ?_ (cD h3) h4 h5;unfold fM;rw[List.length_append,List.flatMap_append];exact h2
end Go.Proofs.YthffblhdjjbkaaaGreat
