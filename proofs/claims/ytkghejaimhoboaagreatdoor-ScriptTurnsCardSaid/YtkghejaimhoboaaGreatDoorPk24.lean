/- Parts of the proof of ScriptTurns. -/
import Derived.Test.YtkghejaimhoboaaGreatDoorPk19
import Derived.Test.YtkghejaimhoboaaGreatDoorPk20
set_option linter.unusedSimpArgs false
set_option linter.unusedVariables false
set_option maxRecDepth 100000
set_option maxHeartbeats 8000000
namespace Go.Proofs.YtkghejaimhoboaaGreatDoor
open Go.RowKit Go.Shelf Go.Proofs.Tryz
section
attribute [local go_sem] Oper.semAt_some
theorem A2(n:Nat)(h:n<=65535):bs (ay 2 n)=[.int .u8 ((n / 256:Nat):Int),.int .u8 ((n%256:Nat):Int)]:=by rw[KO];unfold bs;simp only[List.map_cons,List.map_nil];rw[gv _ (by omega),gv _ (by omega),Nat.mod_eq_of_lt (by omega:n / 256<256)]
theorem vA(a:Option Addr)(n c:Nat)(l:List UInt8)(w:World)(hr:ax w a n c (bs l))(hn:n<=4611686018427387904):
  Calls prog 75 #[.slice a n c,.int .i64 2] w fun e w'=>((l.length<2/\e=.returned (.tuple #[.int .u64 0,.bool false]))\/(2<=l.length/\e=.returned (.tuple #[.int .u64 (jO (l.take 2)),.bool true])))/\w=w':=by
 have hl:l.length=n:=by have:=hr.len;rw[cV]at this;exact this
 by_cases h2:n<2
 ·have d:decide ((n:Int)<2)=true:=decide_eq_true (by omega);go_enter func75,ntmps75;go_wp2_with fail
  go_ret2
  exact⟨.inl ⟨by omega,rfl⟩,rfl⟩
 have d:decide ((n:Int)<2)=false:=decide_eq_false (by omega);have HR:=af hr;have HL:=af hl;clear hr hl;go_enter func75,ntmps75;go_wp2_with fail
 go_loopw [6,7] (fun v i wr=>∃j:Nat,j<=2/\i=.int .i64 j/\v=.int .u64 (jO (l.take j))/\w=wr) (fun _ i _=>2-(intOf i).toNat)
 case atStart=>exact⟨0,Nat.zero_le _,by go_num,rfl,rfl⟩
 case round=>
  obtain⟨j,hj,rfl,rfl,rfl⟩:=hrel;by_cases hjk:j<2
  ·obtain⟨b,off,ha,hcell⟩:=HR.byte (show j<n by omega);subst ha;have hs:jO (l.take (j+1))=jO (l.take j)*256+(l[j]?.getD 0).toNat:=by
    have Og:j<l.length:=by rw[HL.out];omega
    rw[List.take_add_one,List.getElem?_eq_getElem Og];exact mZ _ _
   have hx:jO (l.take j)<256:=by
    have h1:=lY (l.take j);have h2:(l.take j).length<=1:=by simp;omega
    have h3:256^(l.take j).length<=256^1:=Nat.pow_le_pow_right (by decide) h2;omega
   have hy:=(l[j]?.getD 0).toNat_lt;obtain⟨x,hX⟩:=ae (jO (l.take j));obtain⟨y,hY⟩:=ae ((l[j]?.getD 0).toNat);rw[hX,hY]at hs;rw[hX]at hx ⊢;rw[hY]at hcell hy;replace hs:=af hs;clear hX hY;go_wp2_with fail;refine⟨⟨j+1,by omega,by go_num,?_,trivial⟩,by simp[intOf];omega⟩;rw[hs.out];exact congrArg (Value.int IntKind.u64) (by omega)
  obtain rfl:j=2:=by omega
  go_wp2
  go_ret2
  exact⟨.inr ⟨by have:=HL.out;omega,rfl⟩,rfl⟩
theorem LJ(x y:Int)(w:World):(w.alloc (.cells #[.int .u8 x,.int .u8 y] 5)).ownsRow w.heap.size 5 1 (.slice (some ⟨w.heap.size,0,none⟩) 2 2) 2 [.int .u8 x,.int .u8 y]:=World.ownsRow_lit w #[.int .u8 x,.int .u8 y] 2 ah (by decide) rfl
theorem LK(s:List UInt8)(w:World)(hs:s.length<=65535):
  Calls prog 85 #[.string ⟨s.toArray⟩] w fun e w'=>∃v,e=.returned (.tuple #[v,.bool true])/\w'.ownsRow w.heap.size 5 1 v (aI s).length (bs (aI s))/\Below w.heap.size w w':=by
 obtain⟨i0,hi,hz0,hz1,hz2⟩:=info_parts Tryz.zF;have hsz:(⟨s.toArray⟩:ByteArray).size=s.length:=by simp[ByteArray.size]
 have sB:bs (aI s)=[.int .u8 ((s.length / 256:Nat):Int),.int .u8 ((s.length%256:Nat):Int)]++bs s:=by unfold aI;rw[lZ,A2 _ hs]
 have Ff:(aI s).length=2+s.length:=by unfold aI;rw[List.length_append,aO]
 have hsc:=ky s;obtain⟨n,hn⟩:=ae s.length;obtain⟨sb,eD⟩:=ae ((⟨s.toArray⟩:ByteArray):ByteArray);rw[hn]at hsz hs sB Ff;rw[eD]at hsz hsc ⊢;have mm:=LJ ((n:Int) / 256) ((n:Int)%256) w;have e1:((n / 256:Nat):Int)=(n:Int) / 256:=by omega
 have e2:((n%256:Nat):Int)=(n:Int)%256:=by omega
 rw[e1,e2]at sB;rw[<-hsc]at sB;replace sB:=af sB;replace Ff:=af Ff;clear hsc eD e1 e2 hn;go_enter func85,ntmps85;go_wp2_with (at_builtin;refine Go.Lib.wpList_append_own_string _ rfl _ _ 22 9 rfl _ 5 i0 underlying22 underlying9 hi hz0 hz1 hz2 _ _ _ rfl mm sb rfl (by show 2+sb.size<=_;unfold maxLen;omega) (by show 2+sb.size<=_;omega) (by simp) ?_;intro v' w4 dI hg4 _)
 go_ret2
 rw[hsz,<-sB.out]at dI;rw[Ff.out];exact⟨v',rfl,dI,((Below.refl _ w).alloc ah _).grown hg4 (by simp) (fun q hq=>by have:=(mm.lt q hq).1;omega)⟩
theorem fT(s:List UInt8)(w:World)(hs:s.length<=65535):Calls prog 117 #[.string ⟨s.toArray⟩] w fun e w'=>∃v,e=.returned v/\w'.ownsRow w.heap.size 5 1 v (aI s).length (bs (aI s))/\Below w.heap.size w w':=by
 have CT:=af (LK s w hs);go_enter func117,ntmps117;go_wp2_with fail
 refine CT.mono ?_;rintro e w1 ⟨v,rfl,how,hb⟩;obtain⟨a,c,rfl⟩:=aA how;have HO:=af how;have HB:=af hb;clear how hb;go_wp2_with fail;go_ret;exact⟨_,rfl,HO.out,HB.out⟩
theorem tS(n:Nat)(w:World)(hn:n<=65535):Calls prog 118 #[.int .i64 n] w fun e w'=>∃v,e=.returned v/\w'.ownsRow w.heap.size 5 1 v 2 (bs (ay 2 n))/\Below w.heap.size w w':=by
 obtain⟨z,hz⟩:=ae ((n:Int):Int);have e0:bs (ay 2 n)=[.int .u8 (z / 256),.int .u8 (z%256)]:=by rw[A2 n hn,show((n / 256:Nat):Int)=z / 256 by omega,show((n%256:Nat):Int)=z%256 by omega]
 obtain⟨xs,pS⟩:=ae (bs (ay 2 n));rw[pS]at e0 ⊢;have HL:Hid ((w.alloc (.cells #[.int .u8 (z / 256),.int .u8 (z%256)] 5)).ownsRow w.heap.size 5 1 (.slice (some ⟨w.heap.size,0,none⟩) 2 2) 2 xs):=af (by rw[e0];exact LJ _ _ w);have h0:0<=z:=by omega
 have h1:z<=65535:=by omega
 rw[hz];clear e0 pS hz;go_enter func118,ntmps118;go_wp2_with fail
 go_ret;exact⟨_,rfl,HL.out,(Below.refl _ w).alloc ah _⟩
theorem FZ(b:Bool)(n:Int)(w:World):Calls prog 86 #[.bool b,.int .i64 n] w fun e w'=>e=.returned (.int .i64 (if b then n else 0))/\w=w':=by
 cases b<;>
 ·go_enter func86,ntmps86;go_wp2_with fail
  go_ret;exact⟨rfl,rfl⟩
theorem A3(s:List UInt8)(m:Nat)(w:World)(hs:s.length<=4611686018427387904)(hm:m<=1000000):Calls prog 179 #[.string ⟨s.toArray⟩,.int .i64 m] w (dD (gQ s m) w):=by
 unfold gQ;have hsz:ByteArray.size ⟨s.toArray⟩=s.length:=by simp[ByteArray.size]
 have RB:=nO s;by_cases h1:s.length<=m
 ·have CC:=af (rE s w (by omega));unfold Kj at CC;obtain⟨n,hn⟩:=ae s.length;obtain⟨z,hz⟩:=ae (cr s);obtain⟨sb,eD⟩:=ae ((⟨s.toArray⟩:ByteArray):ByteArray);rw[hn]at hsz h1 hs ⊢;rw[eD]at hsz CC ⊢;rw[hz]at CC RB ⊢;have d:decide ((m:Int)<n)=false:=decide_eq_false (by omega);clear hn hz eD;go_enter func179,ntmps179;go_wp2_with fail
  refine CC.mono ?_;rintro e w1 ⟨hb1,⟨hz,v,rfl,how⟩ | ⟨hz,rfl⟩⟩
  ·have HB:=af hb1;obtain⟨a,c,rfl⟩:=aA how;subst hz;clear hb1 how;go_wp2_with fail;go_ret;exact⟨by simp[h1],HB.out⟩
  have HB:=af hb1;clear hb1;have d0:decide (z<0)=false:=decide_eq_false (by omega);have hz2:Hid (z≠ -1):=af (by omega);go_wp2_with fail
  go_ret;exact⟨by simp[h1,hz2.out,d0],HB.out⟩
 obtain⟨n,hn⟩:=ae s.length;obtain⟨sb,eD⟩:=ae ((⟨s.toArray⟩:ByteArray):ByteArray);rw[hn]at hsz h1 hs ⊢;rw[eD]at hsz ⊢;have d:decide ((m:Int)<n)=true:=decide_eq_true (by omega);clear hn eD;go_enter func179,ntmps179;go_wp2_with fail
 go_ret;exact⟨by simp[h1],Below.refl _ _⟩
theorem F0(a:Option Addr)(n cap:Nat)(i j:Int)(i' j':Nat)(hi:i=i')(hj:j=j')(UT:i'<=j')(hjc:j'<=cap)(W:World):
  (Instr.slice 22 (.slice a n cap) (some (.int .i64 i)) (some (.int .u64 j)) none).run prog W=.ok (.slice (eJ a cap i') (j'-i') (cap-i')) W:=by
 subst hi hj;rw[run_slice_lh W 22 a n cap Tryz.fP .i64 .u64 _ _ (by omega) (by omega) (by omega),Tryz.xh];simp[Result.andThen,sliced,eJ]
theorem LM(a:Option Addr)(n cap:Nat)(i:Int)(i':Nat)(hi:i=i')(cd:i'<=n)(W:World):
  (Instr.slice 22 (.slice a n cap) (some (.int .u64 i)) none none).run prog W=.ok (.slice (eJ a cap i') (n-i') (cap-i')) W:=by
 subst hi;rw[run_slice_l W 22 a n cap Tryz.fP .u64 _ (by omega) (by omega),Tryz.xh];simp[Result.andThen,sliced,eJ]
theorem ax.mid{w:World}{a:Option Addr}{n c:Nat}{l:List UInt8}(h:ax w a n c (bs l)){i j:Nat}(UT:i<=j)(hj:j<=n):ax w (eJ a c i) (j-i) (c-i) (bs ((l.drop i).take (j-i))):=by have hr:=h.from (i:=i) (by omega);have h2:=hr.take (j-i) (by omega);rw[dV,pV]at h2;exact h2
def LN(a:Option Addr)(n c:Nat)(l:List UInt8)(w:World)(e:Ending)(w':World):Prop:=Below w.heap.size w w'/\((bC l=none/\e=.returned (.tuple #[.string ⟨#[]⟩,.slice none 0 0,.bool false]))\/
 ∃s r a2 c2,bC l=some (s,r)/\e=.returned (.tuple #[.string ⟨s.toArray⟩,.slice a2 r.length c2,.bool true])/\∀W,ax W a n c (bs l)->ax W a2 r.length c2 (bs r))
theorem qM(a:Option Addr)(n c:Nat)(l:List UInt8)(w:World)(hr:ax w a n c (bs l))(hn:n<=70368744177664):Calls prog 102 #[.slice a n c] w (LN a n c l w):=by
 have CR:=af (vA a n c l w hr (by omega));have hl:l.length=n:=by have:=hr.len;rw[cV]at this;exact this
 by_cases h2:n<2
 ·have hno:Hid (bC l=none):=af (by unfold bC aX;rw[if_pos (by omega)];rfl);go_enter func102,ntmps102;go_wp2_with fail
  refine CR.mono ?_;rintro e w1 ⟨⟨_,rfl⟩ | ⟨h,_⟩,rfl⟩
  ·go_wp2_with fail
   go_ret3
   exact⟨Below.refl _ _,.inl ⟨hno.out,rfl⟩⟩
  omega
 have h8:aX 2 l=some (jO (l.take 2),l.drop 2):=by unfold aX;rw[if_neg (by omega)]
 have hbl:jO (l.take 2)<65536:=by
  have h1:=lY (l.take 2)
  rwa [List.length_take_of_le (by omega)]at h1
 obtain⟨m,hm⟩:=ae (jO (l.take 2));have ht:bC l=if (l.drop 2).length<m then none else some ((l.drop 2).take m,(l.drop 2).drop m):=by unfold bC;rw[h8,Option.bind_some,hm]
 rw[hm]at hbl CR;have ht:=af ht;have IA:(l.drop 2).length=n-2:=by simp;omega
 have IA:=af IA;have HR:=af hr;have hl:=af hl;clear h8 hm;have hw:IntKind.u64.wrap ((n:Int)-2)=(n:Int)-2:=by
  have e:(n:Int)-2=((n-2:Nat):Int):=by omega
  rw[e];exact rJ _ (by omega)
 go_enter func102,ntmps102;go_wp2_with fail
 refine CR.mono ?_;rintro e w1 ⟨⟨h,_⟩ | ⟨_,rfl⟩,rfl⟩
 ·exact absurd h (by have:=hl.out;have:=h2;omega)
 obtain⟨mz,O5⟩:=ae ((m:Int):Int);rw[O5];by_cases h3:n-2<m
 ·have d:decide ((n:Int)-2<mz)=true:=decide_eq_true (by omega);go_wp2_with fail
  go_ret3
  exact⟨Below.refl _ _,.inl ⟨by rw[ht.out,if_pos (by have:=IA.out;omega)],rfl⟩⟩
 have d:decide ((n:Int)-2<mz)=false:=decide_eq_false (by omega);have hc:=HR.le;have hw2:IntKind.u64.wrap (2+mz)=2+mz:=by rw[<-O5,show(2:Int)+(m:Int)=((2+m:Nat):Int) by omega];exact rJ _ (by omega)
 have sO:=fun W=>F0 a n c 2 (2+mz) 2 (2+m) rfl (by omega) (by omega) (by omega) W;have A4:=fun W=>LM a n c (2+mz) (2+m) (by omega) (by omega) W;rw[show 2+m-2=m by omega]at sO;have O5:=af O5;go_upto_region 4 with fail;try simp only[PT]
 refine aH [(1000,fun w'=>ax w' a n c (bs l))] (by kernel_rfl) ⟨HR.ag ai.drew,trivial⟩ fun KQ aL=>?_;try simp only[PT]
 refine tQ [0,1,2] ?_;refine fX 3 rfl (by kernel_rfl) (by kernel_rfl) rfl Tryz.fP _ sO ?_;try simp only[PT]
 refine EY 4 rfl (by kernel_rfl) (by kernel_rfl) rfl rfl 0 rfl (by kernel_rfl) (.string ⟨((l.drop 2).take m).toArray⟩) (fun w' hf=>by(have h9:=dX (hf.mid (show 2<=2+m by omega) (show 2+m<=n by omega));rw[show 2+m-2=m by omega]at h9;exact h9)) ?_;simp only[PT];refine tQ [5,6,7] ?_;refine fX 8 rfl (by kernel_rfl) (by kernel_rfl) rfl Tryz.fP _ A4 ?_;try simp only[PT]
 refine tQ [9,10,11] ?_;refine dQ (aL.out _ _ ?_);clear aL KQ;go_wp2_with fail
 go_ret3
 have hlen:(l.drop (2+m)).length=n-(2+m):=by simp;have:=hl.out;omega
 refine⟨ai.drew,.inr ⟨(l.drop 2).take m,l.drop (2+m),eJ a c (2+m),c-(2+m),?_,?_,?_⟩⟩
 ·rw[ht.out,if_neg (by have:=IA.out;omega),List.drop_drop]
 ·rw[hlen];rfl
 rw[hlen];intro W hW;have iK:=hW.from (i:=2+m) (by omega);rw[dV]at iK;exact iK
theorem vB(a:Option Addr)(n c:Nat)(l:List UInt8)(w:World)(hr:ax w a n c (bs l))(hn:n<=70368744177664):Calls prog 28 #[.slice a n c] w (LN a n c l w):=by
 have CR:=af (vA a n c l w hr (by omega));have hl:l.length=n:=by have:=hr.len;rw[cV]at this;exact this
 by_cases h2:n<2
 ·have hno:Hid (bC l=none):=af (by unfold bC aX;rw[if_pos (by omega)];rfl);go_enter func28,ntmps28;go_wp2_with fail
  refine CR.mono ?_;rintro e w1 ⟨⟨_,rfl⟩ | ⟨h,_⟩,rfl⟩
  ·go_wp2_with fail
   go_ret3
   exact⟨Below.refl _ _,.inl ⟨hno.out,rfl⟩⟩
  omega
 have h8:aX 2 l=some (jO (l.take 2),l.drop 2):=by unfold aX;rw[if_neg (by omega)]
 have hbl:jO (l.take 2)<65536:=by
  have h1:=lY (l.take 2)
  rwa [List.length_take_of_le (by omega)]at h1
 obtain⟨m,hm⟩:=ae (jO (l.take 2));have ht:bC l=if (l.drop 2).length<m then none else some ((l.drop 2).take m,(l.drop 2).drop m):=by unfold bC;rw[h8,Option.bind_some,hm]
 rw[hm]at hbl CR;have ht:=af ht;have IA:(l.drop 2).length=n-2:=by simp;omega
 have IA:=af IA;have HR:=af hr;have hl:=af hl;clear h8 hm;have hw:IntKind.u64.wrap ((n:Int)-2)=(n:Int)-2:=by
  have e:(n:Int)-2=((n-2:Nat):Int):=by omega
  rw[e];exact rJ _ (by omega)
 go_enter func28,ntmps28;go_wp2_with fail
 refine CR.mono ?_;rintro e w1 ⟨⟨h,_⟩ | ⟨_,rfl⟩,rfl⟩
 ·exact absurd h (by have:=hl.out;have:=h2;omega)
 obtain⟨mz,O5⟩:=ae ((m:Int):Int);rw[O5];by_cases h3:n-2<m
 ·have d:decide ((n:Int)-2<mz)=true:=decide_eq_true (by omega);go_wp2_with fail
  go_ret3
  exact⟨Below.refl _ _,.inl ⟨by rw[ht.out,if_pos (by have:=IA.out;omega)],rfl⟩⟩
 have d:decide ((n:Int)-2<mz)=false:=decide_eq_false (by omega);have hc:=HR.le;have hw2:IntKind.u64.wrap (2+mz)=2+mz:=by rw[<-O5,show(2:Int)+(m:Int)=((2+m:Nat):Int) by omega];exact rJ _ (by omega)
 have sO:=fun W=>F0 a n c 2 (2+mz) 2 (2+m) rfl (by omega) (by omega) (by omega) W;have A4:=fun W=>LM a n c (2+mz) (2+m) (by omega) (by omega) W;rw[show 2+m-2=m by omega]at sO;have O5:=af O5;go_upto_region 4 with fail;try simp only[PT]
 refine aH [(1000,fun w'=>ax w' a n c (bs l))] (by kernel_rfl) ⟨HR.ag ai.drew,trivial⟩ fun KQ aL=>?_;try simp only[PT]
 refine tQ [0,1,2] ?_;refine fX 3 rfl (by kernel_rfl) (by kernel_rfl) rfl Tryz.fP _ sO ?_;try simp only[PT]
 refine EY 4 rfl (by kernel_rfl) (by kernel_rfl) rfl rfl 0 rfl (by kernel_rfl) (.string ⟨((l.drop 2).take m).toArray⟩) (fun w' hf=>by(have h9:=dX (hf.mid (show 2<=2+m by omega) (show 2+m<=n by omega));rw[show 2+m-2=m by omega]at h9;exact h9)) ?_;simp only[PT];refine tQ [5,6,7] ?_;refine fX 8 rfl (by kernel_rfl) (by kernel_rfl) rfl Tryz.fP _ A4 ?_;try simp only[PT]
 refine tQ [9,10,11] ?_;refine dQ (aL.out _ _ ?_);clear aL KQ;go_wp2_with fail
 go_ret3
 have hlen:(l.drop (2+m)).length=n-(2+m):=by simp;have:=hl.out;omega
 refine⟨ai.drew,.inr ⟨(l.drop 2).take m,l.drop (2+m),eJ a c (2+m),c-(2+m),?_,?_,?_⟩⟩
 ·rw[ht.out,if_neg (by have:=IA.out;omega),List.drop_drop]
 ·rw[hlen];rfl
 rw[hlen];intro W hW;have iK:=hW.from (i:=2+m) (by omega);rw[dV]at iK;exact iK
def JG(xs:List (List UInt8)):List Value:=xs.map fun s=>.string ⟨s.toArray⟩
def TE(m:Nat)(l:List UInt8)(w:World)(e:Ending)(w':World):Prop:=Below w.heap.size w w'/\((bJ bC m l=none/\e=.returned (.tuple #[.slice none 0 0,.bool false]))\/
 ∃xs r v,bJ bC m l=some (xs,r)/\e=.returned (.tuple #[v,.bool true])/\w'.ownsRow w.heap.size 9 1 v m (JG xs))
theorem Tryz.N7:fL prog 50 9 (.string ⟨#[]⟩) 1 16:=⟨underlying50,by kernel_rfl,rfl⟩
theorem IC(a:Option Addr)(n c:Nat)(l:List UInt8)(m:Nat)(w:World)(hr:ax w a n c (bs l))(hn:n<=70368744177664)(hm:m<=1000):Calls prog 173 #[.slice a n c,.int .i64 m] w (TE m l w):=by
 have hl:l.length=n:=by have:=hr.len;rw[cV]at this;exact this
 have HR:=af hr;go_enter func173,ntmps173;go_wp2_with fail
 go_loopw [0,6,7] (fun b v i wr=>∃(j:Nat)(xs:List (List UInt8))(r:List UInt8)(a':Option Addr)(c':Nat),j<=m/\i=.int .i64 j/\bJ bC j l=some (xs,r)/\r.length<=n/\b=.slice a' r.length c'/\Hid (∀W,ax W a n c (bs l)->ax W a' r.length c' (bs r))/\wr.ownsRow w.heap.size 9 1 v j (JG xs)/\Below w.heap.size w wr) (fun _ _ i _=>m-(intOf i).toNat)
 case atStart=>exact⟨0,[],l,a,c,Nat.zero_le _,by go_num,rfl,by omega,by rw[hl],af fun W h=>by rw[hl];exact h,World.ownsRow_nil _ _ _ _,Below.refl _ _⟩
 case round=>
  obtain⟨j,xs,r,a',c',hj,rfl,hx,ZT,rfl,Vf,how,hb⟩:=hrel;by_cases JY:j<m
  ·have CT:=af (qM a' r.length c' r wr (Vf.out _ (HR.ag hb)) (by omega));have hsz:=hb.size;have HB:=af hb;have HO:=af how;have hx:=af hx;clear hb how hr;go_wp2_with fail;refine CT.mono ?_;rintro e w1 ⟨hb1,⟨hno,rfl⟩ | ⟨s,r2,a2,c2,cq,rfl,hr2⟩⟩
   ·have LO:Hid (bJ bC m l=none):=af (pK bC l (j+1) (by rw[dy,hx.out,Option.bind_some,hno];rfl) m (by omega));have gH:=af (HB.trans (hb1.mono hsz));clear hb1 hno;go_wp2_with fail
    go_ret2
    exact⟨gH.out,.inl ⟨LO.out,rfl⟩⟩
   have hs1:=hb1.size;have gH:=af (HB.trans (hb1.mono hsz));have Xw:=af (aB HO.out hb1);have hlt:Hid (r2.length<=r.length):=af (by have h9:=(cg cq).1;rw[h9,List.length_append];omega)
   have oT:Hid (bJ bC (j+1) l=some (xs++[s],r2)):=af (by rw[dy,hx.out,Option.bind_some,cq];rfl);have DA:Hid (∀W,ax W a n c (bs l)->ax W a2 r2.length c2 (bs r2)):=af fun W h=>hr2 W (Vf.out W h);clear hb1 cq hr2;go_wp2_with (at_builtin;refine dt rfl _ _ rfl Tryz.N7 w.heap.size _ _ _ rfl Xw.out (.string ⟨s.toArray⟩) rfl rfl (by omega) (by omega) (by omega) ?_;intro v' w4 dI hg4);have hb4:=gH.grown hg4 (by omega) (fun q hq=>(Xw.lt q hq).1);refine⟨⟨j+1,xs++[s],r2,a2,c2,by omega,by go_num,oT.out,by have:=hlt.out;omega,rfl,DA,?_,?_⟩,by simp[intOf];omega⟩
   ·unfold JG;rw[List.map_append];exact dI
   exact hb4
  obtain rfl:j=m:=by omega
  have HB:=af hb;have HO:=af how;have hx:=af hx;clear hb how Vf hr JY;go_wp2
  go_ret2
  exact⟨HB.out,.inr ⟨xs,r,_,hx.out,rfl,HO.out⟩⟩
end
end Go.Proofs.YtkghejaimhoboaaGreatDoor
