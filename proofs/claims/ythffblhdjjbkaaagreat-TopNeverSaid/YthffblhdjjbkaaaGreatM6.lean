/- strings.IndexByte; escape.Reader in the middle of a block -/
import Derived.Test.YthffblhdjjbkaaaGreatM5
import Derived.Lib.Bytealg
set_option maxHeartbeats 100000000
set_option maxRecDepth 1000000
open Go.Lib (hid)
open Go.Proofs.Tryz
namespace Go.Proofs.YthffblhdjjbkaaaGreat
open Go.RowKit Go.Tru
theorem Ia (s:ByteArray) (c:Int) (w:World):Calls prog 159 #[.string s,.int .u8 c] w fun e w'=>e= .returned (.int .i64 (Lib.indexByte s.data.toList c.toNat.toUInt8))∧w=w':=by go_enter func159,ntmps159;go_wp2;rw[run_callFunc_extern func165 (by kernel_rfl) (by kernel_rfl) (by kernel_rfl) (e:=Extern.BytealgIndexByte.indexByte) (by kernel_rfl),Lib.run_indexByteString];simp only[Result.andThen];rw[Oper.upon_value];go_wp2;go_ret;exact⟨rfl,rfl⟩
theorem fz (s:ByteArray) (c:Int) (w:World):Calls prog 152 #[.string s,.int .u8 c] w fun e w'=>e= .returned (.int .i64 (Lib.indexByte s.data.toList c.toNat.toUInt8))∧w=w':=by
 go_enter func152,ntmps152;go_wp2_with fail
 refine(Ia s c w).mono ?_;rintro e w1 ⟨rfl,rfl⟩;go_wp2;go_ret;exact⟨rfl,rfl⟩
/-! ### bits -/
theorem Xk (x:Nat) (hx:x<256):((x|||32:Nat):Int)<97∨102<((x|||32:Nat):Int)∨((x|||32:Nat):Int)-87=(if 97≤(x:Int)∧(x:Int)≤102 then(x:Int)-87 else(x:Int)-55)∧(97≤(x:Int)∧(x:Int)≤102∨65≤(x:Int)∧(x:Int)≤70):=by
 have h: ∀y:Fin 256,((y.1|||32:Nat):Int)<97∨102<((y.1|||32:Nat):Int)∨((y.1|||32:Nat):Int)-87=(if 97≤(y.1:Int)∧(y.1:Int)≤102 then(y.1:Int)-87 else(y.1:Int)-55)∧(97≤(y.1:Int)∧(y.1:Int)≤102∨65≤(y.1:Int)∧(y.1:Int)≤70):=by decide+kernel
 exact h ⟨x,hx⟩
theorem TB (x:Nat) (hx:x<256):(97≤x∧x≤102∨65≤x∧x≤70)→97≤x|||32∧x|||32≤102:=by
 have h: ∀y:Fin 256,(97≤y.1∧y.1≤102∨65≤y.1∧y.1≤70)→97≤y.1|||32∧y.1|||32≤102:=by decide+kernel
 exact h ⟨x,hx⟩
theorem TC (x:Int) (h0:0≤x) (h1:x≤255): ∃y:Int,bits .or .u8 x 32=y∧0≤y∧y≤255∧(97≤y∧y≤102→¬ (48≤x∧x≤57)∧dQ x=y-87)∧(¬ (97≤y∧y≤102)→¬ (48≤x∧x≤57)→dQ x= -1):=by
 obtain⟨n,rfl⟩: ∃n:Nat,x=n:=⟨x.toNat,by omega⟩
 have hn:n<256:=by omega
 have hb:n|||32<256:=Nat.or_lt_two_pow (n:=8) hn (by decide);refine⟨((n|||32:Nat):Int),u8_or_nat n 32 hn (by decide),by omega,by omega,fun hy=> ?_,fun hy hd=> ?_⟩
 ·rcases Xk n hn with h|h|⟨h,h'⟩
  ·omega
  ·omega
  ·refine⟨by omega,?_⟩;unfold dQ;rw[if_neg (by omega),h];split
   ·rfl
   ·rw[if_pos (by omega)]
 ·unfold dQ;rw[if_neg hd];have h2:=TB n hn;rw[if_neg (by omega),if_neg (by omega)]
theorem uz (x:Int) (w:World) (h0:0≤x) (h1:x≤255):Calls prog 160 #[.int .u8 x] w fun e w'=>e= .returned (.int .i64 (dQ x))∧w=w':=by
 obtain⟨y,hy,hy0,hy1,ha,hb⟩:=TC x h0 h1;by_cases hd:48≤x∧x≤57
 ·have he:dQ x=x-48:=by unfold dQ;rw[if_pos hd]
  have HE:=hid he;obtain⟨d0,d1⟩:=hd;clear ha hb he;go_enter func160,ntmps160;go_wp2;go_ret;exact⟨nh (by rw[HE.out]),rfl⟩
 ·by_cases hl:97≤y∧y≤102
  ·have HE:=hid (ha hl).2;obtain⟨l0,l1⟩:=hl;clear ha hb;rcases(show x<48∨57<x by omega) with hx|hx;all_goals clear hd;go_enter func160,ntmps160;go_wp2;go_ret;exact⟨nh (by rw[HE.out];omega),rfl⟩
  ·have HE:=hid (hb hl hd);clear ha hb;rcases(show x<48∨57<x by omega) with hx|hx;all_goals
    rcases(show y<97∨102<y by omega) with nS|nS;all_goals clear hd hl;go_enter func160,ntmps160;go_wp2;go_ret;exact⟨nh (by rw[HE.out]),rfl⟩
/-! ### the Reader's cells -/
theorem et {w:World} {b:Nat} {pre post:List Value} {t:TypeId} {r:cA} {off:Nat} (h:Has w b (pre++r.cells++post) t) (ho:off=pre.length):w.cell? ⟨b,off+4,none⟩=some (.int .i64 r.state)∧w.cell? ⟨b,off+5,none⟩=some (.int .i64 r.r)∧w.cell? ⟨b,off+6,none⟩=some (.int .i64 r.n)∧w.cell? ⟨b,off+7,none⟩=some (.int .i64 r.pair)∧w.cell? ⟨b,off+8,none⟩=some (.int .i64 r.e):=⟨bR h ho 4 (by simp[cA.cells,cm.cells]),bR h ho 5 (by simp[cA.cells,cm.cells]),bR h ho 6 (by simp[cA.cells,cm.cells]),bR h ho 7 (by simp[cA.cells,cm.cells]),bR h ho 8 (by simp[cA.cells,cm.cells])⟩
theorem JG (b:Nat) (pre post:List Value) (t:TypeId) (r:cA) (x:Int) (w:World) (h:Has w b (pre++r.cells++post) t) (off:Nat) (bK:off=pre.length) (hx:0≤x) (dE:x≤255):Calls prog 154 #[.pointer (some ⟨b,off,none⟩),.int .u8 x] w fun e w'=>e= .returned (.bool (r.may x))∧w=w':=by
 obtain⟨g4,g5,g6,g7,g8⟩:=et h bK;have hex:=fun W=>uz x W hx dE;clear h bK;by_cases h0:r.state=0
 ·have hm:r.may x=decide (x=92):=by unfold cA.may;rw[if_pos h0]
  rw[h0] at g4;have HM:=hid hm;clear h0 hm hex;go_enter func154,ntmps154;go_wp2;go_ret;exact⟨dA (by rw[HM.out,Bool.eq_iff_iff];simp),rfl⟩
 by_cases h1:r.state=1
 ·have hm:r.may x=decide (x=117):=by unfold cA.may;rw[if_neg h0,if_pos h1]
  rw[h1] at g4;have HM:=hid hm;clear h0 h1 hm hex;go_enter func154,ntmps154;go_wp2;go_ret;exact⟨dA (by rw[HM.out,Bool.eq_iff_iff];simp),rfl⟩
 have b0:(r.state==0)=false:=by simp[h0]
 have b1:(r.state==1)=false:=by simp[h1]
 by_cases h2:r.n=0
 ·have hm:r.may x=decide (dQ x=13):=by unfold cA.may;rw[if_neg h0,if_neg h1,if_pos h2]
  rw[h2] at g6;have HM:=hid hm;clear h0 h1 h2 hm;go_enter func154,ntmps154;go_wp2_with fail
  refine(hex _).mono ?_;rintro e w1 ⟨rfl,rfl⟩;go_wp2_with fail
  go_ret;exact⟨dA (by rw[HM.out,Bool.eq_iff_iff];simp),rfl⟩
 have b2:(r.n==0)=false:=by simp[h2]
 by_cases h3:r.n=1
 ·have hm:r.may x=decide (12≤dQ x):=by unfold cA.may;rw[if_neg h0,if_neg h1,if_neg h2,if_pos h3]
  rw[h3] at g6;have HM:=hid hm;clear h0 h1 h2 h3 hm b2;go_enter func154,ntmps154;go_wp2_with fail
  refine(hex _).mono ?_;rintro e w1 ⟨rfl,rfl⟩;go_wp2_with fail
  go_ret;exact⟨dA (by rw[HM.out]),rfl⟩
 ·have b3:(r.n==1)=false:=by simp[h3]
  have hm:r.may x=decide (0≤dQ x):=by unfold cA.may;rw[if_neg h0,if_neg h1,if_neg h2,if_neg h3]
  have HM:=hid hm;clear h0 h1 h2 h3 hm;go_enter func154,ntmps154;go_wp2_with fail
  refine(hex _).mono ?_;rintro e w1 ⟨rfl,rfl⟩;go_wp2_with fail
  go_ret;exact⟨dA (by rw[HM.out]),rfl⟩
def gG (l:List UInt8) (e:Int):Value:= .tuple #[.string ⟨l.toArray⟩,.int .i64 e]
def jk (w:World) (b:Nat) (pre post:List Value) (t:TypeId) (r':cA) (w':World):Prop:=Has w' b (pre++r'.cells++post) t∧I [b] w w'
theorem bY {w:World} {b:Nat} {pre post:List Value} {t:TypeId} {r':cA} {w':World} (h:Has w' b (pre++r'.cells++post) t) (k:I [b] w w'):jk w b pre post t r' w':=⟨h,k⟩
theorem mL (pre post:List Value) (r:cA):pre++r.cells++post=pre++r.c.cells++([.int .i64 r.state,.int .i64 r.r,.int .i64 r.n,.int .i64 r.pair,.int .i64 r.e]++post):=by simp[cA.cells]
theorem TD (x:Int):strOfNums [x]=⟨#[UInt8.ofNat x.toNat]⟩:=rfl
end Go.Proofs.YthffblhdjjbkaaaGreat
