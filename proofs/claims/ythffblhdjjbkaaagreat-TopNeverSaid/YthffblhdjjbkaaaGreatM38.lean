/- escape.Write of a document's text -/
import Derived.Test.YthffblhdjjbkaaaGreatM37
import Derived.Test.YthffblhdjjbkaaaGreatM34
set_option maxHeartbeats 100000000
set_option maxRecDepth 1000000
open Go.Lib (hid)
open Go.Proofs.Tryz
open Or (inl inr)
namespace Go.Proofs.YthffblhdjjbkaaaGreat
open Go.RowKit Go.Tru
theorem gS.Ag {F:List Nat} {w w':World} {B b:Nat} {l:List UInt8} (h:gS w B b l) (k:I F w w') (hb:b∉F) (hF: ∀i∈F,i<B):gS w' B b l:=by obtain⟨p,v,h1,h2,h3⟩:=h;refine⟨p,v,h1.keeps k hb,h2,ab h3 k (fun i hi hm=> ?_)⟩;have:=(World.ownsRow.lt h3 i hi).1;have:=hF i hm;omega
open Go.K1 in
theorem iD (w:World) (B b:Nat) (l:List UInt8) (s:ByteArray) (h:gS w B b l) (hB:B≤w.heap.size) (hlen:l.length+s.size≤1000000):Calls prog 91 #[.pointer (some ⟨b,0,none⟩),.string s] w fun e w'=>e= .returned (.tuple #[.int .i64 s.size,.nilIface])∧gS w' B b (l++s.data.toList)∧∃F,I F w w'∧∀i∈F,i=b∨B≤i:=q35
theorem gS.iter {w:World} {B b k:Nat} {l:List UInt8} {s:ByteArray} {p:Nat} (h:gS w B b l) (hk:b<k) (hkB:k<B):gS (w.iterAt k s p) B b l:=h.Ag (F:=[k]) (((I.refl [k] w).trans' (G:=[k]) ⟨rfl,rfl,rfl,by rw[Lib.iterAt_size];exact Nat.le_refl _,fun i _ hn=>Lib.iterAt_other w k i s p (by simpa using hn)⟩ (fun i hi=>inl hi))) (by simp;omega) (fun i hi=>by rw[List.mem_singleton] at hi;omega)
structure JC (t:bq) (s:ByteArray) (w0:World) (pos k:Nat) (acc:List UInt8) (wr:World):Prop where
 lb:gS wr (w0.heap.size+2) w0.heap.size acc
 kp:I [] w0 wr
 ZS:eh k (s.data.toList.drop pos)=true
 fG:acc++t.ek k (s.data.toList.drop pos)=t.RC s.data.toList
 le:pos≤s.size
 len:acc.length≤6*pos
 sz:w0.heap.size+2≤wr.heap.size
theorem JC.next {t:bq} {s:ByteArray} {w0 wr w':World} {pos k q:Nat} {acc pc l2:List UInt8} {F:List Nat} (h:JC t s w0 pos (k+1) acc wr) (hq:1≤q) (hl:s.data.toList.drop (pos+q)=l2) (hle:pos+q≤s.size) (hu:eh k l2=true) (he:t.ek (k+1) (s.data.toList.drop pos)=pc++t.ek k l2) (hp:pc.length≤6) (Ro:gS w' (w0.heap.size+2) w0.heap.size (acc++pc)) (hk:I F wr w') (hF: ∀i∈F,w0.heap.size≤i):JC t s w0 (pos+q) k (acc++pc) w':=⟨Ro,h.kp.trans' hk (fun i hi=>inr (hF i hi)),by rw[hl];exact hu,by rw[hl,List.append_assoc,←he];exact h.fG,hle,by have:=h.len;rw[List.length_append];omega,Nat.le_trans h.sz hk.size⟩
theorem Py (t:bq) (s:ByteArray) (hu:eh s.size s.data.toList=true) (lx:s.size≤1000) (w:World) (h:dt t w):Calls prog 208 #[.string s] w fun e w'=>e= .returned (.string (bytesOf (t.RC s.data.toList)))∧I [] w w':=by
 have HT:=hid (fun W (k:I [] w W)=>h.keeps k (by simp));have hsi:(s.size:Int)≤1000:=by omega
 have hU:=hid hu;clear hu h;go_enter func208,ntmps208;go_wp2;go_loopw [4] (fun _ wr=>∃ (pos k:Nat) (acc:List UInt8),JC t s w pos k acc wr∧wr.heap[w.heap.size+1]? =some (.stringIter s pos)) (fun _ wr=>s.size-wr.iterPos (w.heap.size+1));case atStart=>
  have hk:=(I.refl [] w).alloc (.cells #[.pointer none,.slice none 0 0] 132);have hit:=World.iter_heap (w.alloc (.cells #[.pointer none,.slice none 0 0] 132)) s 0;refine⟨0,s.size,[],⟨gS.new ((Has.aC w #[.pointer none,.slice none 0 0] _ rfl).alloc _),hk.alloc _,hU.out,?_,Nat.zero_le _,Nat.zero_le _,?_⟩,by simpa using hit⟩
  ·show []++t.ek s.size s.data.toList=t.ek s.data.toList.length s.data.toList;rw[Array.length_toList];rfl
  ·have h1:=(Array.getElem?_eq_some_iff.1 hit).1;have h2:(w.alloc (.cells #[.pointer none,.slice none 0 0] 132)).heap.size=w.heap.size+1:=by simp
   omega
 case round=>
  obtain⟨pos,k,acc,hE,hit⟩:=hrel;have HE:=hid hE;have eI:=hE.le;have hiz:w.heap.size+1<wr.heap.size:=(Array.getElem?_eq_some_iff.1 hit).1;by_cases hp:pos<s.size
  ·obtain⟨b,r,uI⟩: ∃b r,s.data.toList.drop pos=b::r:=by rw[List.drop_eq_getElem_cons (by simpa using hp)];exact⟨_,_,rfl⟩
   have Lx:=hE.ZS;rw[uI] at Lx;obtain⟨k,rfl⟩: ∃k',k=k'+1:=by
    cases k with
    |zero=>cases Lx
    |succ k=>exact⟨k,rfl⟩
   clear hE;rcases tu Lx with⟨rfl,l2,rfl,yU⟩|⟨rfl,l2,rfl,yU⟩|⟨rfl|rfl|rfl|rfl|rfl|rfl,yU⟩
   ·have hl:=uI;clear uI Lx;have ga:Utf8.decode s pos=(233,2):=gE (r:=233) (t:=l2) (by unfold im;omega) (by rw[hl];rfl);have iy: ∀ty,(Instr.next (.pointer (some ⟨w.heap.size+1,0,none⟩)) true ty).run prog wr=_:=fun ty=>Lib.run_next_any_at wr (w.heap.size+1) s pos ty hit hp;rw[ga] at iy;have nS:s.data.toList.drop (pos+2)=l2:=by rw[←List.drop_drop,hl];rfl
    have hle:pos+2≤s.size:=by have e:=congrArg List.length hl;rw[List.length_drop,Array.length_toList] at e;simp only[List.length_cons] at e;show _≤s.data.size;omega
    have he:t.ek (k+1) (s.data.toList.drop pos)=(List.take (t.zv (l2.length+2)) (195::169::l2))++t.ek k l2:=by rw[hl,bq.ek,if_pos rfl];rfl
    have hS:(s.extract pos s.size).data.toList=195::169::l2:=by rw[Lib.extract_data,hl,List.take_of_length_le];have e:=congrArg List.length hl;rw[List.length_drop,Array.length_toList] at e;show _≤s.data.size-pos;omega
    obtain⟨S,pY⟩: ∃S,s.extract pos s.size=S:=⟨_,rfl⟩
    rw[pY] at hS;have Af: ∀W,(Instr.slice 9 (.string s) (some (.int .i64 (pos:Int))) none none).run prog W= .ok (.string S) W:=fun W=>by rw[run_slice_string_from_if W 9 s .i64 pos underlying9,if_pos (by omega),←pY];simp
    have lg:=HE.out;have uo:=hid (lg.lb.iter (s:=s) (p:=pos+2) (k:=w.heap.size+1) (by omega) (by omega));have dU:I [w.heap.size+1] wr (wr.iterAt (w.heap.size+1) s (pos+2)):=⟨rfl,rfl,rfl,by rw[Lib.iterAt_size];exact Nat.le_refl _,fun i _ hn=>Lib.iterAt_other wr (w.heap.size+1) i s _ (by simpa using hn)⟩
    have DA:=hid (HT.out _ (lg.kp.trans' dU (fun i hi=>inr (by rw[List.mem_singleton.1 hi];omega))));have gq:w.heap.size+2≤(wr.iterAt (w.heap.size+1) s (pos+2)).heap.size:=Nat.le_trans lg.sz dU.size;have iu:=Lib.iterAt_heap wr (w.heap.size+1) s pos (pos+2) hit;obtain⟨w1,eK⟩: ∃w1,wr.iterAt (w.heap.size+1) s (pos+2)=w1:=⟨_,rfl⟩
    rw[eK] at iy uo dU DA gq iu;have Lg:=lg.len;have wo:=hid dU;have ld:=hid iu;have Cu:=hid hit;have nH:=hid gq;have yV:=hid he;have Ha:=hid nS;have HU:=hid yU;have qx:=hid hle;have Tp:=hid hS;have zB:=hid hl;have hh:=wm yU;have HD:=hid (fun W hW=>Po t S l2 hS hh (by have e:=congrArg List.length hl;rw[List.length_drop,Array.length_toList] at e;simp only[List.length_cons] at e;have:s.data.size=s.size:=rfl;omega) W hW);obtain⟨d,hd⟩: ∃d,t.zv (l2.length+2)=d:=⟨_,rfl⟩
    have hd4:=t.Jz (l2.length+2);rw[hd] at hd4 HD yV;have HX:=hid WQ;have Tm:=da (x:=(pos:Int)+(d:Int)) (by omega);have Dw:(pos:Int)≤(pos:Int)+(d:Int):=by omega
    have Hb:(pos:Int)+(d:Int)≤s.size:=by omega
    have Hc: ∀W,(Instr.slice 9 (.string s) (some (.int .i64 (pos:Int))) (some (.int .i64 ((pos:Int)+(d:Int)))) none).run prog W= .ok (.string (s.extract pos (pos+d))) W:=fun W=>by
     rw[run_slice_string W 9 s .i64 .i64 _ _ underlying9 (by omega) Dw Hb];have e1:((pos:Int)+(d:Int)).toNat=pos+d:=by omega
     have e0:((pos:Int)).toNat=pos:=by omega
     rw[e1,e0]
    have hex:(s.extract pos (pos+d)).data.toList=List.take d (195::169::l2):=by rw[Lib.extract_data,hl,Nat.add_sub_cancel_left]
    have ur:(s.extract pos (pos+d)).size≤4:=by rw[ByteArray.size_extract];omega
    obtain⟨X,hX⟩: ∃X,s.extract pos (pos+d)=X:=⟨_,rfl⟩
    rw[hX] at Hc hex ur;have He:=hid hex;clear hl nS he hle yU hS pY lg dU iu hit gq eK ga hex hX hd hh;go_wp2_with fail
    refine(HD.out _ DA.out).mono ?_;rintro e w2 ⟨⟨v,rfl⟩,k2⟩;have K2:=hid k2;clear k2;go_wp2_with fail
    refine(HX.out _).mono ?_;rintro e w3 ⟨rfl,k3⟩;have JD:=K2.out.trans k3;have KA:=hid (wo.out.trans (JD.mono nn));have LA:=hid (uo.out.Ag JD (by simp) (by simp));have SA:=hid (Nat.le_trans nH.out JD.size);have IA:=hid (JD.heap ld.out (by simp));clear k3 JD;go_wp2_with fail
    refine(iD _ (w.heap.size+2) w.heap.size acc X LA.out SA.out (by omega)).mono ?_;rintro e w4 ⟨rfl,g4,F,wq,hF⟩;have k4:=wq;clear wq;have G4:=hid g4;have K4:=hid k4;have HF:=hid hF;clear g4 k4 hF;go_wp2_with fail
    go_roundw;case rel=>
     have pZ:w.heap.size+1∉F:=fun hm=>by rcases HF.out _ hm with h|h<;>omega
     refine⟨pos+2,k,_,HE.out.next (pc:=(List.take d (195::169::l2))) (F:=(w.heap.size+1)::F) (by omega) Ha.out qx.out HU.out (yV.out) (by rw[List.length_take];omega) ?_ ((KA.out.mono (by simp)).trans (K4.out.mono mc)) (fun i hi=> ?_),K4.out.heap IA.out pZ⟩
     ·rw[←He.out];exact G4.out
     ·rcases List.mem_cons.1 hi with rfl|hi
      ·omega
      ·rcases HF.out i hi with h|h<;>omega
    case measure=>
     have pZ:w.heap.size+1∉F:=fun hm=>by rcases HF.out _ hm with h|h<;>omega
     have h4:=K4.out.heap IA.out pZ;have h0:=Cu.out;have Hf:=qx.out;simp only[World.iterPos,h4,h0];omega
   ·have hl:=uI;clear uI Lx;have ga:Utf8.decode s pos=(119070,4):=gE (r:=119070) (t:=l2) (by unfold im;omega) (by rw[hl];rfl);have iy: ∀ty,(Instr.next (.pointer (some ⟨w.heap.size+1,0,none⟩)) true ty).run prog wr=_:=fun ty=>Lib.run_next_any_at wr (w.heap.size+1) s pos ty hit hp;rw[ga] at iy;have nS:s.data.toList.drop (pos+4)=l2:=by rw[←List.drop_drop,hl];rfl
    have hle:pos+4≤s.size:=by have e:=congrArg List.length hl;rw[List.length_drop,Array.length_toList] at e;simp only[List.length_cons] at e;show _≤s.data.size;omega
    have he:t.ek (k+1) (s.data.toList.drop pos)=(List.take (t.zw (l2.length+4)) (240::157::132::158::l2))++t.ek k l2:=by rw[hl,bq.ek,if_neg (by decide),if_pos rfl];rfl
    have hS:(s.extract pos s.size).data.toList=240::157::132::158::l2:=by rw[Lib.extract_data,hl,List.take_of_length_le];have e:=congrArg List.length hl;rw[List.length_drop,Array.length_toList] at e;show _≤s.data.size-pos;omega
    obtain⟨S,pY⟩: ∃S,s.extract pos s.size=S:=⟨_,rfl⟩
    rw[pY] at hS;have Af: ∀W,(Instr.slice 9 (.string s) (some (.int .i64 (pos:Int))) none none).run prog W= .ok (.string S) W:=fun W=>by rw[run_slice_string_from_if W 9 s .i64 pos underlying9,if_pos (by omega),←pY];simp
    have lg:=HE.out;have uo:=hid (lg.lb.iter (s:=s) (p:=pos+4) (k:=w.heap.size+1) (by omega) (by omega));have dU:I [w.heap.size+1] wr (wr.iterAt (w.heap.size+1) s (pos+4)):=⟨rfl,rfl,rfl,by rw[Lib.iterAt_size];exact Nat.le_refl _,fun i _ hn=>Lib.iterAt_other wr (w.heap.size+1) i s _ (by simpa using hn)⟩
    have DA:=hid (HT.out _ (lg.kp.trans' dU (fun i hi=>inr (by rw[List.mem_singleton.1 hi];omega))));have gq:w.heap.size+2≤(wr.iterAt (w.heap.size+1) s (pos+4)).heap.size:=Nat.le_trans lg.sz dU.size;have iu:=Lib.iterAt_heap wr (w.heap.size+1) s pos (pos+4) hit;obtain⟨w1,eK⟩: ∃w1,wr.iterAt (w.heap.size+1) s (pos+4)=w1:=⟨_,rfl⟩
    rw[eK] at iy uo dU DA gq iu;have Lg:=lg.len;have wo:=hid dU;have ld:=hid iu;have Cu:=hid hit;have nH:=hid gq;have yV:=hid he;have Ha:=hid nS;have HU:=hid yU;have qx:=hid hle;have Tp:=hid hS;have zB:=hid hl;have hh:=wm yU;have HD:=hid (fun W hW=>Pp t S l2 hS W hW);obtain⟨d,hd⟩: ∃d,t.zw (l2.length+4)=d:=⟨_,rfl⟩
    have hd4:=t.JA (l2.length+4);rw[hd] at hd4 HD yV;have HX:=hid Pq;have Tm:=da (x:=(pos:Int)+(d:Int)) (by omega);have Dw:(pos:Int)≤(pos:Int)+(d:Int):=by omega
    have Hb:(pos:Int)+(d:Int)≤s.size:=by omega
    have Hc: ∀W,(Instr.slice 9 (.string s) (some (.int .i64 (pos:Int))) (some (.int .i64 ((pos:Int)+(d:Int)))) none).run prog W= .ok (.string (s.extract pos (pos+d))) W:=fun W=>by
     rw[run_slice_string W 9 s .i64 .i64 _ _ underlying9 (by omega) Dw Hb];have e1:((pos:Int)+(d:Int)).toNat=pos+d:=by omega
     have e0:((pos:Int)).toNat=pos:=by omega
     rw[e1,e0]
    have hex:(s.extract pos (pos+d)).data.toList=List.take d (240::157::132::158::l2):=by rw[Lib.extract_data,hl,Nat.add_sub_cancel_left]
    have ur:(s.extract pos (pos+d)).size≤4:=by rw[ByteArray.size_extract];omega
    obtain⟨X,hX⟩: ∃X,s.extract pos (pos+d)=X:=⟨_,rfl⟩
    rw[hX] at Hc hex ur;have He:=hid hex;clear hl nS he hle yU hS pY lg dU iu hit gq eK ga hex hX hd hh;go_wp2_with fail
    refine(HD.out _ DA.out).mono ?_;rintro e w2 ⟨⟨v,rfl⟩,k2⟩;have K2:=hid k2;clear k2;go_wp2_with fail
    refine(HX.out _).mono ?_;rintro e w3 ⟨rfl,k3⟩;have JD:=K2.out.trans k3;have KA:=hid (wo.out.trans (JD.mono nn));have LA:=hid (uo.out.Ag JD (by simp) (by simp));have SA:=hid (Nat.le_trans nH.out JD.size);have IA:=hid (JD.heap ld.out (by simp));clear k3 JD;go_wp2_with fail
    refine(iD _ (w.heap.size+2) w.heap.size acc X LA.out SA.out (by omega)).mono ?_;rintro e w4 ⟨rfl,g4,F,wq,hF⟩;have k4:=wq;clear wq;have G4:=hid g4;have K4:=hid k4;have HF:=hid hF;clear g4 k4 hF;go_wp2_with fail
    go_roundw;case rel=>
     have pZ:w.heap.size+1∉F:=fun hm=>by rcases HF.out _ hm with h|h<;>omega
     refine⟨pos+4,k,_,HE.out.next (pc:=(List.take d (240::157::132::158::l2))) (F:=(w.heap.size+1)::F) (by omega) Ha.out qx.out HU.out (yV.out) (by rw[List.length_take];omega) ?_ ((KA.out.mono (by simp)).trans (K4.out.mono mc)) (fun i hi=> ?_),K4.out.heap IA.out pZ⟩
     ·rw[←He.out];exact G4.out
     ·rcases List.mem_cons.1 hi with rfl|hi
      ·omega
      ·rcases HF.out i hi with h|h<;>omega
    case measure=>
     have pZ:w.heap.size+1∉F:=fun hm=>by rcases HF.out _ hm with h|h<;>omega
     have h4:=K4.out.heap IA.out pZ;have h0:=Cu.out;have Hf:=qx.out;simp only[World.iterPos,h4,h0];omega
   ·have hl:=uI;clear uI Lx;have ga:Utf8.decode s pos=(97,1):=gE (r:=97) (t:=r) (by unfold im;omega) (by rw[hl];rfl);have iy: ∀ty,(Instr.next (.pointer (some ⟨w.heap.size+1,0,none⟩)) true ty).run prog wr=_:=fun ty=>Lib.run_next_any_at wr (w.heap.size+1) s pos ty hit hp;rw[ga] at iy;have nS:s.data.toList.drop (pos+1)=r:=by rw[←List.drop_drop,hl];rfl
    have hle:pos+1≤s.size:=by have e:=congrArg List.length hl;rw[List.length_drop,Array.length_toList] at e;simp only[List.length_cons] at e;show _≤s.data.size;omega
    have he:t.ek (k+1) (s.data.toList.drop pos)= [97]++t.ek k r:=by rw[hl];rfl
    have hS:(s.extract pos s.size).data.toList=97::r:=by rw[Lib.extract_data,hl,List.take_of_length_le];have e:=congrArg List.length hl;rw[List.length_drop,Array.length_toList] at e;show _≤s.data.size-pos;omega
    obtain⟨S,pY⟩: ∃S,s.extract pos s.size=S:=⟨_,rfl⟩
    rw[pY] at hS;have Af: ∀W,(Instr.slice 9 (.string s) (some (.int .i64 (pos:Int))) none none).run prog W= .ok (.string S) W:=fun W=>by rw[run_slice_string_from_if W 9 s .i64 pos underlying9,if_pos (by omega),←pY];simp
    have lg:=HE.out;have uo:=hid (lg.lb.iter (s:=s) (p:=pos+1) (k:=w.heap.size+1) (by omega) (by omega));have dU:I [w.heap.size+1] wr (wr.iterAt (w.heap.size+1) s (pos+1)):=⟨rfl,rfl,rfl,by rw[Lib.iterAt_size];exact Nat.le_refl _,fun i _ hn=>Lib.iterAt_other wr (w.heap.size+1) i s _ (by simpa using hn)⟩
    have DA:=hid (HT.out _ (lg.kp.trans' dU (fun i hi=>inr (by rw[List.mem_singleton.1 hi];omega))));have gq:w.heap.size+2≤(wr.iterAt (w.heap.size+1) s (pos+1)).heap.size:=Nat.le_trans lg.sz dU.size;have iu:=Lib.iterAt_heap wr (w.heap.size+1) s pos (pos+1) hit;obtain⟨w1,eK⟩: ∃w1,wr.iterAt (w.heap.size+1) s (pos+1)=w1:=⟨_,rfl⟩
    rw[eK] at iy uo dU DA gq iu;have Lg:=lg.len;have wo:=hid dU;have ld:=hid iu;have Cu:=hid hit;have nH:=hid gq;have yV:=hid he;have Ha:=hid nS;have HU:=hid yU;have qx:=hid hle;have Tp:=hid hS;have zB:=hid hl;have HD:=hid (fun W=>Tryz.utf8_DecodeRuneInString_ascii S 97 W (by rw[hS];rfl) (by decide));have HX:Hid (∀W,Calls prog 212 #[.string ⟨#[34,92,8,12,10,13,9]⟩,.int .i32 97] W fun e w'=>e= .returned (.int .i64 (-1))∧w'=W):=hid (fun W=>(Tryz.strings_IndexRune_ascii ⟨#[34,92,8,12,10,13,9]⟩ 97 W (by omega) (by omega)).mono (by rintro e w' ⟨rfl,rfl⟩;exact⟨by rfl,rfl⟩))
    have Tm:=da (x:=(pos:Int)+1) (by omega);have Dw:(pos:Int)≤(pos:Int)+1:=by omega
    have Hb:(pos:Int)+1≤s.size:=by omega
    have Hc: ∀W,(Instr.slice 9 (.string s) (some (.int .i64 (pos:Int))) (some (.int .i64 ((pos:Int)+1))) none).run prog W= .ok (.string (s.extract pos (pos+1))) W:=fun W=>by
     rw[run_slice_string W 9 s .i64 .i64 _ _ underlying9 (by omega) Dw Hb];have e1:((pos:Int)+1).toNat=pos+1:=by omega
     simp[e1]
    have hex:(s.extract pos (pos+1)).data.toList= [97]:=by rw[Lib.extract_data,hl,Nat.add_sub_cancel_left];rfl
    have ur:(s.extract pos (pos+1)).size≤4:=by rw[ByteArray.size_extract];omega
    obtain⟨X,hX⟩: ∃X,s.extract pos (pos+1)=X:=⟨_,rfl⟩
    rw[hX] at Hc hex ur;have He:=hid hex;clear hl nS he hle yU hS pY lg dU iu hit gq eK ga hex hX;go_wp2_with fail
    refine(HD.out _).mono ?_;rintro e w2 ⟨rfl,rfl⟩;go_wp2_with fail
    refine(HX.out _).mono ?_;rintro e w3 ⟨rfl,rfl⟩;go_wp2_with fail
    have KA:=hid (wo.out);have LA:=uo;have SA:=nH;have IA:=ld;refine(iD _ (w.heap.size+2) w.heap.size acc X LA.out SA.out (by omega)).mono ?_;rintro e w4 ⟨rfl,g4,F,wq,hF⟩;have k4:=wq;clear wq;have G4:=hid g4;have K4:=hid k4;have HF:=hid hF;clear g4 k4 hF;go_wp2_with fail
    go_roundw;case rel=>
     have pZ:w.heap.size+1∉F:=fun hm=>by rcases HF.out _ hm with h|h<;>omega
     refine⟨pos+1,k,_,HE.out.next (pc:=[97]) (F:=(w.heap.size+1)::F) (by omega) Ha.out qx.out HU.out (yV.out) (by simp) ?_ ((KA.out.mono (by simp)).trans (K4.out.mono mc)) (fun i hi=> ?_),K4.out.heap IA.out pZ⟩
     ·rw[←He.out];exact G4.out
     ·rcases List.mem_cons.1 hi with rfl|hi
      ·omega
      ·rcases HF.out i hi with h|h<;>omega
    case measure=>
     have pZ:w.heap.size+1∉F:=fun hm=>by rcases HF.out _ hm with h|h<;>omega
     have h4:=K4.out.heap IA.out pZ;have h0:=Cu.out;have Hf:=qx.out;simp only[World.iterPos,h4,h0];omega
   ·have hl:=uI;clear uI Lx;have ga:Utf8.decode s pos=(34,1):=gE (r:=34) (t:=r) (by unfold im;omega) (by rw[hl];rfl);have iy: ∀ty,(Instr.next (.pointer (some ⟨w.heap.size+1,0,none⟩)) true ty).run prog wr=_:=fun ty=>Lib.run_next_any_at wr (w.heap.size+1) s pos ty hit hp;rw[ga] at iy;have nS:s.data.toList.drop (pos+1)=r:=by rw[←List.drop_drop,hl];rfl
    have hle:pos+1≤s.size:=by have e:=congrArg List.length hl;rw[List.length_drop,Array.length_toList] at e;simp only[List.length_cons] at e;show _≤s.data.size;omega
    have he:t.ek (k+1) (s.data.toList.drop pos)= [92,34]++t.ek k r:=by rw[hl];rfl
    have hS:(s.extract pos s.size).data.toList=34::r:=by rw[Lib.extract_data,hl,List.take_of_length_le];have e:=congrArg List.length hl;rw[List.length_drop,Array.length_toList] at e;show _≤s.data.size-pos;omega
    obtain⟨S,pY⟩: ∃S,s.extract pos s.size=S:=⟨_,rfl⟩
    rw[pY] at hS;have Af: ∀W,(Instr.slice 9 (.string s) (some (.int .i64 (pos:Int))) none none).run prog W= .ok (.string S) W:=fun W=>by rw[run_slice_string_from_if W 9 s .i64 pos underlying9,if_pos (by omega),←pY];simp
    have lg:=HE.out;have uo:=hid (lg.lb.iter (s:=s) (p:=pos+1) (k:=w.heap.size+1) (by omega) (by omega));have dU:I [w.heap.size+1] wr (wr.iterAt (w.heap.size+1) s (pos+1)):=⟨rfl,rfl,rfl,by rw[Lib.iterAt_size];exact Nat.le_refl _,fun i _ hn=>Lib.iterAt_other wr (w.heap.size+1) i s _ (by simpa using hn)⟩
    have DA:=hid (HT.out _ (lg.kp.trans' dU (fun i hi=>inr (by rw[List.mem_singleton.1 hi];omega))));have gq:w.heap.size+2≤(wr.iterAt (w.heap.size+1) s (pos+1)).heap.size:=Nat.le_trans lg.sz dU.size;have iu:=Lib.iterAt_heap wr (w.heap.size+1) s pos (pos+1) hit;obtain⟨w1,eK⟩: ∃w1,wr.iterAt (w.heap.size+1) s (pos+1)=w1:=⟨_,rfl⟩
    rw[eK] at iy uo dU DA gq iu;have Lg:=lg.len;have wo:=hid dU;have ld:=hid iu;have Cu:=hid hit;have nH:=hid gq;have yV:=hid he;have Ha:=hid nS;have HU:=hid yU;have qx:=hid hle;have Tp:=hid hS;have zB:=hid hl;have HD:=hid (fun W=>Tryz.utf8_DecodeRuneInString_ascii S 34 W (by rw[hS];rfl) (by decide));have HX:Hid (∀W,Calls prog 212 #[.string ⟨#[34,92,8,12,10,13,9]⟩,.int .i32 34] W fun e w'=>e= .returned (.int .i64 (0))∧w'=W):=hid (fun W=>(Tryz.strings_IndexRune_ascii ⟨#[34,92,8,12,10,13,9]⟩ 34 W (by omega) (by omega)).mono (by rintro e w' ⟨rfl,rfl⟩;exact⟨by rfl,rfl⟩))
    clear hl nS he hle yU hS pY lg dU iu hit gq eK ga;go_wp2_with fail
    refine(HD.out _).mono ?_;rintro e w2 ⟨rfl,rfl⟩;go_wp2_with fail
    refine(HX.out _).mono ?_;rintro e w3 ⟨rfl,rfl⟩;go_wp2_with fail
    have KA:=hid (wo.out);have LA:=uo;have SA:=nH;have IA:=ld;obtain⟨X,hX⟩: ∃X,(⟨#[92]⟩:ByteArray)++(⟨#[34,92,98,102,110,114,116]⟩:ByteArray).extract 0 1=X:=⟨_,rfl⟩
    have hex:X.data.toList= [92,34]:=by rw[←hX];decide+kernel
    have ur:X.size=2:=by rw[←hX];decide+kernel
    rw[hX];have He:=hid hex;clear hex hX;refine(iD _ (w.heap.size+2) w.heap.size acc X LA.out SA.out (by omega)).mono ?_;rintro e w4 ⟨rfl,g4,F,wq,hF⟩;have k4:=wq;clear wq;have G4:=hid g4;have K4:=hid k4;have HF:=hid hF;clear g4 k4 hF;go_wp2_with fail
    go_roundw;case rel=>
     have pZ:w.heap.size+1∉F:=fun hm=>by rcases HF.out _ hm with h|h<;>omega
     refine⟨pos+1,k,_,HE.out.next (pc:=[92,34]) (F:=(w.heap.size+1)::F) (by omega) Ha.out qx.out HU.out (yV.out) (by simp) ?_ ((KA.out.mono (by simp)).trans (K4.out.mono mc)) (fun i hi=> ?_),K4.out.heap IA.out pZ⟩
     ·rw[←He.out];exact G4.out
     ·rcases List.mem_cons.1 hi with rfl|hi
      ·omega
      ·rcases HF.out i hi with h|h<;>omega
    case measure=>
     have pZ:w.heap.size+1∉F:=fun hm=>by rcases HF.out _ hm with h|h<;>omega
     have h4:=K4.out.heap IA.out pZ;have h0:=Cu.out;have Hf:=qx.out;simp only[World.iterPos,h4,h0];omega
   ·have hl:=uI;clear uI Lx;have ga:Utf8.decode s pos=(92,1):=gE (r:=92) (t:=r) (by unfold im;omega) (by rw[hl];rfl);have iy: ∀ty,(Instr.next (.pointer (some ⟨w.heap.size+1,0,none⟩)) true ty).run prog wr=_:=fun ty=>Lib.run_next_any_at wr (w.heap.size+1) s pos ty hit hp;rw[ga] at iy;have nS:s.data.toList.drop (pos+1)=r:=by rw[←List.drop_drop,hl];rfl
    have hle:pos+1≤s.size:=by have e:=congrArg List.length hl;rw[List.length_drop,Array.length_toList] at e;simp only[List.length_cons] at e;show _≤s.data.size;omega
    have he:t.ek (k+1) (s.data.toList.drop pos)= [92,92]++t.ek k r:=by rw[hl];rfl
    have hS:(s.extract pos s.size).data.toList=92::r:=by rw[Lib.extract_data,hl,List.take_of_length_le];have e:=congrArg List.length hl;rw[List.length_drop,Array.length_toList] at e;show _≤s.data.size-pos;omega
    obtain⟨S,pY⟩: ∃S,s.extract pos s.size=S:=⟨_,rfl⟩
    rw[pY] at hS;have Af: ∀W,(Instr.slice 9 (.string s) (some (.int .i64 (pos:Int))) none none).run prog W= .ok (.string S) W:=fun W=>by rw[run_slice_string_from_if W 9 s .i64 pos underlying9,if_pos (by omega),←pY];simp
    have lg:=HE.out;have uo:=hid (lg.lb.iter (s:=s) (p:=pos+1) (k:=w.heap.size+1) (by omega) (by omega));have dU:I [w.heap.size+1] wr (wr.iterAt (w.heap.size+1) s (pos+1)):=⟨rfl,rfl,rfl,by rw[Lib.iterAt_size];exact Nat.le_refl _,fun i _ hn=>Lib.iterAt_other wr (w.heap.size+1) i s _ (by simpa using hn)⟩
    have DA:=hid (HT.out _ (lg.kp.trans' dU (fun i hi=>inr (by rw[List.mem_singleton.1 hi];omega))));have gq:w.heap.size+2≤(wr.iterAt (w.heap.size+1) s (pos+1)).heap.size:=Nat.le_trans lg.sz dU.size;have iu:=Lib.iterAt_heap wr (w.heap.size+1) s pos (pos+1) hit;obtain⟨w1,eK⟩: ∃w1,wr.iterAt (w.heap.size+1) s (pos+1)=w1:=⟨_,rfl⟩
    rw[eK] at iy uo dU DA gq iu;have Lg:=lg.len;have wo:=hid dU;have ld:=hid iu;have Cu:=hid hit;have nH:=hid gq;have yV:=hid he;have Ha:=hid nS;have HU:=hid yU;have qx:=hid hle;have Tp:=hid hS;have zB:=hid hl;have HD:=hid (fun W=>Tryz.utf8_DecodeRuneInString_ascii S 92 W (by rw[hS];rfl) (by decide));have HX:Hid (∀W,Calls prog 212 #[.string ⟨#[34,92,8,12,10,13,9]⟩,.int .i32 92] W fun e w'=>e= .returned (.int .i64 (1))∧w'=W):=hid (fun W=>(Tryz.strings_IndexRune_ascii ⟨#[34,92,8,12,10,13,9]⟩ 92 W (by omega) (by omega)).mono (by rintro e w' ⟨rfl,rfl⟩;exact⟨by rfl,rfl⟩))
    clear hl nS he hle yU hS pY lg dU iu hit gq eK ga;go_wp2_with fail
    refine(HD.out _).mono ?_;rintro e w2 ⟨rfl,rfl⟩;go_wp2_with fail
    refine(HX.out _).mono ?_;rintro e w3 ⟨rfl,rfl⟩;go_wp2_with fail
    have KA:=hid (wo.out);have LA:=uo;have SA:=nH;have IA:=ld;obtain⟨X,hX⟩: ∃X,(⟨#[92]⟩:ByteArray)++(⟨#[34,92,98,102,110,114,116]⟩:ByteArray).extract 1 2=X:=⟨_,rfl⟩
    have hex:X.data.toList= [92,92]:=by rw[←hX];decide+kernel
    have ur:X.size=2:=by rw[←hX];decide+kernel
    rw[hX];have He:=hid hex;clear hex hX;refine(iD _ (w.heap.size+2) w.heap.size acc X LA.out SA.out (by omega)).mono ?_;rintro e w4 ⟨rfl,g4,F,wq,hF⟩;have k4:=wq;clear wq;have G4:=hid g4;have K4:=hid k4;have HF:=hid hF;clear g4 k4 hF;go_wp2_with fail
    go_roundw;case rel=>
     have pZ:w.heap.size+1∉F:=fun hm=>by rcases HF.out _ hm with h|h<;>omega
     refine⟨pos+1,k,_,HE.out.next (pc:=[92,92]) (F:=(w.heap.size+1)::F) (by omega) Ha.out qx.out HU.out (yV.out) (by simp) ?_ ((KA.out.mono (by simp)).trans (K4.out.mono mc)) (fun i hi=> ?_),K4.out.heap IA.out pZ⟩
     ·rw[←He.out];exact G4.out
     ·rcases List.mem_cons.1 hi with rfl|hi
      ·omega
      ·rcases HF.out i hi with h|h<;>omega
    case measure=>
     have pZ:w.heap.size+1∉F:=fun hm=>by rcases HF.out _ hm with h|h<;>omega
     have h4:=K4.out.heap IA.out pZ;have h0:=Cu.out;have Hf:=qx.out;simp only[World.iterPos,h4,h0];omega
   ·have hl:=uI;clear uI Lx;have ga:Utf8.decode s pos=(10,1):=gE (r:=10) (t:=r) (by unfold im;omega) (by rw[hl];rfl);have iy: ∀ty,(Instr.next (.pointer (some ⟨w.heap.size+1,0,none⟩)) true ty).run prog wr=_:=fun ty=>Lib.run_next_any_at wr (w.heap.size+1) s pos ty hit hp;rw[ga] at iy;have nS:s.data.toList.drop (pos+1)=r:=by rw[←List.drop_drop,hl];rfl
    have hle:pos+1≤s.size:=by have e:=congrArg List.length hl;rw[List.length_drop,Array.length_toList] at e;simp only[List.length_cons] at e;show _≤s.data.size;omega
    have he:t.ek (k+1) (s.data.toList.drop pos)= [92,110]++t.ek k r:=by rw[hl];rfl
    have hS:(s.extract pos s.size).data.toList=10::r:=by rw[Lib.extract_data,hl,List.take_of_length_le];have e:=congrArg List.length hl;rw[List.length_drop,Array.length_toList] at e;show _≤s.data.size-pos;omega
    obtain⟨S,pY⟩: ∃S,s.extract pos s.size=S:=⟨_,rfl⟩
    rw[pY] at hS;have Af: ∀W,(Instr.slice 9 (.string s) (some (.int .i64 (pos:Int))) none none).run prog W= .ok (.string S) W:=fun W=>by rw[run_slice_string_from_if W 9 s .i64 pos underlying9,if_pos (by omega),←pY];simp
    have lg:=HE.out;have uo:=hid (lg.lb.iter (s:=s) (p:=pos+1) (k:=w.heap.size+1) (by omega) (by omega));have dU:I [w.heap.size+1] wr (wr.iterAt (w.heap.size+1) s (pos+1)):=⟨rfl,rfl,rfl,by rw[Lib.iterAt_size];exact Nat.le_refl _,fun i _ hn=>Lib.iterAt_other wr (w.heap.size+1) i s _ (by simpa using hn)⟩
    have DA:=hid (HT.out _ (lg.kp.trans' dU (fun i hi=>inr (by rw[List.mem_singleton.1 hi];omega))));have gq:w.heap.size+2≤(wr.iterAt (w.heap.size+1) s (pos+1)).heap.size:=Nat.le_trans lg.sz dU.size;have iu:=Lib.iterAt_heap wr (w.heap.size+1) s pos (pos+1) hit;obtain⟨w1,eK⟩: ∃w1,wr.iterAt (w.heap.size+1) s (pos+1)=w1:=⟨_,rfl⟩
    rw[eK] at iy uo dU DA gq iu;have Lg:=lg.len;have wo:=hid dU;have ld:=hid iu;have Cu:=hid hit;have nH:=hid gq;have yV:=hid he;have Ha:=hid nS;have HU:=hid yU;have qx:=hid hle;have Tp:=hid hS;have zB:=hid hl;have HD:=hid (fun W=>Tryz.utf8_DecodeRuneInString_ascii S 10 W (by rw[hS];rfl) (by decide));have HX:Hid (∀W,Calls prog 212 #[.string ⟨#[34,92,8,12,10,13,9]⟩,.int .i32 10] W fun e w'=>e= .returned (.int .i64 (4))∧w'=W):=hid (fun W=>(Tryz.strings_IndexRune_ascii ⟨#[34,92,8,12,10,13,9]⟩ 10 W (by omega) (by omega)).mono (by rintro e w' ⟨rfl,rfl⟩;exact⟨by rfl,rfl⟩))
    clear hl nS he hle yU hS pY lg dU iu hit gq eK ga;go_wp2_with fail
    refine(HD.out _).mono ?_;rintro e w2 ⟨rfl,rfl⟩;go_wp2_with fail
    refine(HX.out _).mono ?_;rintro e w3 ⟨rfl,rfl⟩;go_wp2_with fail
    have KA:=hid (wo.out);have LA:=uo;have SA:=nH;have IA:=ld;obtain⟨X,hX⟩: ∃X,(⟨#[92]⟩:ByteArray)++(⟨#[34,92,98,102,110,114,116]⟩:ByteArray).extract 4 5=X:=⟨_,rfl⟩
    have hex:X.data.toList= [92,110]:=by rw[←hX];decide+kernel
    have ur:X.size=2:=by rw[←hX];decide+kernel
    rw[hX];have He:=hid hex;clear hex hX;refine(iD _ (w.heap.size+2) w.heap.size acc X LA.out SA.out (by omega)).mono ?_;rintro e w4 ⟨rfl,g4,F,wq,hF⟩;have k4:=wq;clear wq;have G4:=hid g4;have K4:=hid k4;have HF:=hid hF;clear g4 k4 hF;go_wp2_with fail
    go_roundw;case rel=>
     have pZ:w.heap.size+1∉F:=fun hm=>by rcases HF.out _ hm with h|h<;>omega
     refine⟨pos+1,k,_,HE.out.next (pc:=[92,110]) (F:=(w.heap.size+1)::F) (by omega) Ha.out qx.out HU.out (yV.out) (by simp) ?_ ((KA.out.mono (by simp)).trans (K4.out.mono mc)) (fun i hi=> ?_),K4.out.heap IA.out pZ⟩
     ·rw[←He.out];exact G4.out
     ·rcases List.mem_cons.1 hi with rfl|hi
      ·omega
      ·rcases HF.out i hi with h|h<;>omega
    case measure=>
     have pZ:w.heap.size+1∉F:=fun hm=>by rcases HF.out _ hm with h|h<;>omega
     have h4:=K4.out.heap IA.out pZ;have h0:=Cu.out;have Hf:=qx.out;simp only[World.iterPos,h4,h0];omega
   ·have hl:=uI;clear uI Lx;have ga:Utf8.decode s pos=(1,1):=gE (r:=1) (t:=r) (by unfold im;omega) (by rw[hl];rfl);have iy: ∀ty,(Instr.next (.pointer (some ⟨w.heap.size+1,0,none⟩)) true ty).run prog wr=_:=fun ty=>Lib.run_next_any_at wr (w.heap.size+1) s pos ty hit hp;rw[ga] at iy;have nS:s.data.toList.drop (pos+1)=r:=by rw[←List.drop_drop,hl];rfl
    have hle:pos+1≤s.size:=by have e:=congrArg List.length hl;rw[List.length_drop,Array.length_toList] at e;simp only[List.length_cons] at e;show _≤s.data.size;omega
    have he:t.ek (k+1) (s.data.toList.drop pos)= [92,117,48,48,48,49]++t.ek k r:=by rw[hl];rfl
    have hS:(s.extract pos s.size).data.toList=1::r:=by rw[Lib.extract_data,hl,List.take_of_length_le];have e:=congrArg List.length hl;rw[List.length_drop,Array.length_toList] at e;show _≤s.data.size-pos;omega
    obtain⟨S,pY⟩: ∃S,s.extract pos s.size=S:=⟨_,rfl⟩
    rw[pY] at hS;have Af: ∀W,(Instr.slice 9 (.string s) (some (.int .i64 (pos:Int))) none none).run prog W= .ok (.string S) W:=fun W=>by rw[run_slice_string_from_if W 9 s .i64 pos underlying9,if_pos (by omega),←pY];simp
    have lg:=HE.out;have uo:=hid (lg.lb.iter (s:=s) (p:=pos+1) (k:=w.heap.size+1) (by omega) (by omega));have dU:I [w.heap.size+1] wr (wr.iterAt (w.heap.size+1) s (pos+1)):=⟨rfl,rfl,rfl,by rw[Lib.iterAt_size];exact Nat.le_refl _,fun i _ hn=>Lib.iterAt_other wr (w.heap.size+1) i s _ (by simpa using hn)⟩
    have DA:=hid (HT.out _ (lg.kp.trans' dU (fun i hi=>inr (by rw[List.mem_singleton.1 hi];omega))));have gq:w.heap.size+2≤(wr.iterAt (w.heap.size+1) s (pos+1)).heap.size:=Nat.le_trans lg.sz dU.size;have iu:=Lib.iterAt_heap wr (w.heap.size+1) s pos (pos+1) hit;obtain⟨w1,eK⟩: ∃w1,wr.iterAt (w.heap.size+1) s (pos+1)=w1:=⟨_,rfl⟩
    rw[eK] at iy uo dU DA gq iu;have Lg:=lg.len;have wo:=hid dU;have ld:=hid iu;have Cu:=hid hit;have nH:=hid gq;have yV:=hid he;have Ha:=hid nS;have HU:=hid yU;have qx:=hid hle;have Tp:=hid hS;have zB:=hid hl;have HD:=hid (fun W=>Tryz.utf8_DecodeRuneInString_ascii S 1 W (by rw[hS];rfl) (by decide));have HX:Hid (∀W,Calls prog 212 #[.string ⟨#[34,92,8,12,10,13,9]⟩,.int .i32 1] W fun e w'=>e= .returned (.int .i64 (-1))∧w'=W):=hid (fun W=>(Tryz.strings_IndexRune_ascii ⟨#[34,92,8,12,10,13,9]⟩ 1 W (by omega) (by omega)).mono (by rintro e w' ⟨rfl,rfl⟩;exact⟨by rfl,rfl⟩))
    have hsA: ∀W,(Instr.slice 9 (.string ⟨#[48,49,50,51,52,53,54,55,56,57,97,98,99,100,101,102]⟩) (some (.int .i32 0)) (some (.int .i32 1)) none).run prog W= .ok (.string ⟨#[48]⟩) W:=fun W=>by rw[run_slice_string W 9 ⟨#[48,49,50,51,52,53,54,55,56,57,97,98,99,100,101,102]⟩ .i32 .i32 0 1 underlying9 (by omega) (by omega) (by decide)];rfl
    have hsB: ∀W,(Instr.slice 9 (.string ⟨#[48,49,50,51,52,53,54,55,56,57,97,98,99,100,101,102]⟩) (some (.int .i32 1)) (some (.int .i32 2)) none).run prog W= .ok (.string ⟨#[49]⟩) W:=fun W=>by rw[run_slice_string W 9 ⟨#[48,49,50,51,52,53,54,55,56,57,97,98,99,100,101,102]⟩ .i32 .i32 1 2 underlying9 (by omega) (by omega) (by decide)];rfl
    have iR:IntKind.i32.wrap 1=1:=by rfl
    have jz:IntKind.i32.wrap 2=2:=by rfl
    have WS:bits .and .i32 1 15=1:=by decide+kernel
    clear hl nS he hle yU hS pY lg dU iu hit gq eK ga;go_wp2_with fail
    refine(HD.out _).mono ?_;rintro e w2 ⟨rfl,rfl⟩;go_wp2_with fail
    refine(HX.out _).mono ?_;rintro e w3 ⟨rfl,rfl⟩;go_wp2_with fail
    have KA:=hid (wo.out);have LA:=uo;have SA:=nH;have IA:=ld;go_still_tail 13,(by kernel_rfl);change wpList _ _ _ _ _ w3.drew;go_wp2_with fail
    obtain⟨X,hX⟩: ∃X,(⟨#[92,117,48,48]⟩:ByteArray)++(⟨#[48]⟩:ByteArray)++(⟨#[49]⟩:ByteArray)=X:=⟨_,rfl⟩
    have hex:X.data.toList= [92,117,48,48,48,49]:=by rw[←hX];decide+kernel
    have ur:X.size=6:=by rw[←hX];decide+kernel
    rw[hX];have He:=hid hex;clear hex hX;have kd:=(I.refl [] w3).drew;refine(iD _ (w.heap.size+2) w.heap.size acc X (LA.out.Ag kd (by simp) (by simp)) (Nat.le_trans SA.out kd.size) (by omega)).mono ?_;rintro e w4 ⟨rfl,g4,F,wq,hF⟩;have k4:=(kd.mono (G:=F) nn).trans wq;clear wq;have G4:=hid g4;have K4:=hid k4;have HF:=hid hF;clear g4 k4 hF;go_wp2_with fail
    go_roundw;case rel=>
     have pZ:w.heap.size+1∉F:=fun hm=>by rcases HF.out _ hm with h|h<;>omega
     refine⟨pos+1,k,_,HE.out.next (pc:=[92,117,48,48,48,49]) (F:=(w.heap.size+1)::F) (by omega) Ha.out qx.out HU.out (yV.out) (by simp) ?_ ((KA.out.mono (by simp)).trans (K4.out.mono mc)) (fun i hi=> ?_),K4.out.heap IA.out pZ⟩
     ·rw[←He.out];exact G4.out
     ·rcases List.mem_cons.1 hi with rfl|hi
      ·omega
      ·rcases HF.out i hi with h|h<;>omega
    case measure=>
     have pZ:w.heap.size+1∉F:=fun hm=>by rcases HF.out _ hm with h|h<;>omega
     have h4:=K4.out.heap IA.out pZ;have h0:=Cu.out;have Hf:=qx.out;simp only[World.iterPos,h4,h0];omega
   ·have hl:=uI;clear uI Lx;have ga:Utf8.decode s pos=(122,1):=gE (r:=122) (t:=r) (by unfold im;omega) (by rw[hl];rfl);have iy: ∀ty,(Instr.next (.pointer (some ⟨w.heap.size+1,0,none⟩)) true ty).run prog wr=_:=fun ty=>Lib.run_next_any_at wr (w.heap.size+1) s pos ty hit hp;rw[ga] at iy;have nS:s.data.toList.drop (pos+1)=r:=by rw[←List.drop_drop,hl];rfl
    have hle:pos+1≤s.size:=by have e:=congrArg List.length hl;rw[List.length_drop,Array.length_toList] at e;simp only[List.length_cons] at e;show _≤s.data.size;omega
    have he:t.ek (k+1) (s.data.toList.drop pos)= [122]++t.ek k r:=by rw[hl];rfl
    have hS:(s.extract pos s.size).data.toList=122::r:=by rw[Lib.extract_data,hl,List.take_of_length_le];have e:=congrArg List.length hl;rw[List.length_drop,Array.length_toList] at e;show _≤s.data.size-pos;omega
    obtain⟨S,pY⟩: ∃S,s.extract pos s.size=S:=⟨_,rfl⟩
    rw[pY] at hS;have Af: ∀W,(Instr.slice 9 (.string s) (some (.int .i64 (pos:Int))) none none).run prog W= .ok (.string S) W:=fun W=>by rw[run_slice_string_from_if W 9 s .i64 pos underlying9,if_pos (by omega),←pY];simp
    have lg:=HE.out;have uo:=hid (lg.lb.iter (s:=s) (p:=pos+1) (k:=w.heap.size+1) (by omega) (by omega));have dU:I [w.heap.size+1] wr (wr.iterAt (w.heap.size+1) s (pos+1)):=⟨rfl,rfl,rfl,by rw[Lib.iterAt_size];exact Nat.le_refl _,fun i _ hn=>Lib.iterAt_other wr (w.heap.size+1) i s _ (by simpa using hn)⟩
    have DA:=hid (HT.out _ (lg.kp.trans' dU (fun i hi=>inr (by rw[List.mem_singleton.1 hi];omega))));have gq:w.heap.size+2≤(wr.iterAt (w.heap.size+1) s (pos+1)).heap.size:=Nat.le_trans lg.sz dU.size;have iu:=Lib.iterAt_heap wr (w.heap.size+1) s pos (pos+1) hit;obtain⟨w1,eK⟩: ∃w1,wr.iterAt (w.heap.size+1) s (pos+1)=w1:=⟨_,rfl⟩
    rw[eK] at iy uo dU DA gq iu;have Lg:=lg.len;have wo:=hid dU;have ld:=hid iu;have Cu:=hid hit;have nH:=hid gq;have yV:=hid he;have Ha:=hid nS;have HU:=hid yU;have qx:=hid hle;have Tp:=hid hS;have zB:=hid hl;have HD:=hid (fun W=>Tryz.utf8_DecodeRuneInString_ascii S 122 W (by rw[hS];rfl) (by decide));have HX:Hid (∀W,Calls prog 212 #[.string ⟨#[34,92,8,12,10,13,9]⟩,.int .i32 122] W fun e w'=>e= .returned (.int .i64 (-1))∧w'=W):=hid (fun W=>(Tryz.strings_IndexRune_ascii ⟨#[34,92,8,12,10,13,9]⟩ 122 W (by omega) (by omega)).mono (by rintro e w' ⟨rfl,rfl⟩;exact⟨by rfl,rfl⟩))
    have Tm:=da (x:=(pos:Int)+1) (by omega);have Dw:(pos:Int)≤(pos:Int)+1:=by omega
    have Hb:(pos:Int)+1≤s.size:=by omega
    have Hc: ∀W,(Instr.slice 9 (.string s) (some (.int .i64 (pos:Int))) (some (.int .i64 ((pos:Int)+1))) none).run prog W= .ok (.string (s.extract pos (pos+1))) W:=fun W=>by
     rw[run_slice_string W 9 s .i64 .i64 _ _ underlying9 (by omega) Dw Hb];have e1:((pos:Int)+1).toNat=pos+1:=by omega
     simp[e1]
    have hex:(s.extract pos (pos+1)).data.toList= [122]:=by rw[Lib.extract_data,hl,Nat.add_sub_cancel_left];rfl
    have ur:(s.extract pos (pos+1)).size≤4:=by rw[ByteArray.size_extract];omega
    obtain⟨X,hX⟩: ∃X,s.extract pos (pos+1)=X:=⟨_,rfl⟩
    rw[hX] at Hc hex ur;have He:=hid hex;clear hl nS he hle yU hS pY lg dU iu hit gq eK ga hex hX;go_wp2_with fail
    refine(HD.out _).mono ?_;rintro e w2 ⟨rfl,rfl⟩;go_wp2_with fail
    refine(HX.out _).mono ?_;rintro e w3 ⟨rfl,rfl⟩;go_wp2_with fail
    have KA:=hid (wo.out);have LA:=uo;have SA:=nH;have IA:=ld;refine(iD _ (w.heap.size+2) w.heap.size acc X LA.out SA.out (by omega)).mono ?_;rintro e w4 ⟨rfl,g4,F,wq,hF⟩;have k4:=wq;clear wq;have G4:=hid g4;have K4:=hid k4;have HF:=hid hF;clear g4 k4 hF;go_wp2_with fail
    go_roundw;case rel=>
     have pZ:w.heap.size+1∉F:=fun hm=>by rcases HF.out _ hm with h|h<;>omega
     refine⟨pos+1,k,_,HE.out.next (pc:=[122]) (F:=(w.heap.size+1)::F) (by omega) Ha.out qx.out HU.out (yV.out) (by simp) ?_ ((KA.out.mono (by simp)).trans (K4.out.mono mc)) (fun i hi=> ?_),K4.out.heap IA.out pZ⟩
     ·rw[←He.out];exact G4.out
     ·rcases List.mem_cons.1 hi with rfl|hi
      ·omega
      ·rcases HF.out i hi with h|h<;>omega
    case measure=>
     have pZ:w.heap.size+1∉F:=fun hm=>by rcases HF.out _ hm with h|h<;>omega
     have h4:=K4.out.heap IA.out pZ;have h0:=Cu.out;have Hf:=qx.out;simp only[World.iterPos,h4,h0];omega
  ·have iy: ∀ty,(Instr.next (.pointer (some ⟨w.heap.size+1,0,none⟩)) true ty).run prog wr=_:=fun ty=>Lib.run_next_end_at wr (w.heap.size+1) s pos ty hit hp;have qZ:acc=t.RC s.data.toList:=by have:=hE.fG;rw[List.drop_eq_nil_of_le (by simpa using hp)] at this;rw[←this];cases k<;>simp[bq.ek]
   have HS:=hid (sw wr (w.heap.size+2) w.heap.size acc hE.lb);have HF:=hid qZ;clear hit hE qZ hU HT;go_wp2_with fail
   refine HS.out.mono ?_;rintro e w4 ⟨rfl,F,k4,hF⟩;have K4:=hid (HE.out.kp.trans' k4 (fun i hi=>inr (Nat.le_trans (Nat.le_add_right _ _) (hF i hi))));clear k4 hF;go_wp2_with fail
   go_ret;exact⟨by rw[HF.out];rfl,K4.out⟩
end Go.Proofs.YthffblhdjjbkaaaGreat
