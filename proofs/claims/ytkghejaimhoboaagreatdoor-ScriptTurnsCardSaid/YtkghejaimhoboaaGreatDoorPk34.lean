/- Parts of the proof of ScriptTurns. -/
import Derived.Test.YtkghejaimhoboaaGreatDoorPk30
set_option linter.unusedSimpArgs false
set_option linter.unusedVariables false
set_option maxRecDepth 100000
set_option maxHeartbeats 8000000
namespace Go.Proofs.YtkghejaimhoboaaGreatDoor
open Go.RowKit Go.Shelf Go.Proofs.Tryz
section
attribute [local go_sem] Oper.semAt_some
def Bf(F:List Nat)(p:Nat)(l m:List UInt8)(w:World)(e:Ending)(w':World):Prop:=∃F',e=.returned (.int .i64 0)/\Wr w' F' p (l++m)/\gO F F' w w'
def lJ(F:List Nat)(p:Nat)(l m:List UInt8)(w:World)(e:Ending)(w':World):Prop:=∃F',e=.returned (.tuple #[])/\Wr w' F' p (l++m)/\gO F F' w w'
theorem wN{w:World}{F:List Nat}{p:Nat}{l:List UInt8}(h:Wr w F p l)(n k:Nat)(gW:1<=k)(hk:k<=2)(hn:n<256^k)(hl:l.length+k<=65536):Calls prog 97 #[.pointer (some ⟨p,0,none⟩),.int .u64 n,.int .i64 k] w (Bf F p l (ay k n) w):=by
 refine(sA h (by omega) n k gW hk hn).mono ?_;rintro e w' ⟨ok,F',jA,rfl,hw,hs⟩;have:ok=true:=by rw[jA];unfold fits;rw[decide_eq_true_eq,aO];exact hl
 subst this;exact⟨F',rfl,by simpa using hw,hs⟩
theorem wT{w:World}{F:List Nat}{p:Nat}{l:List UInt8}(h:Wr w F p l)(s:List UInt8)(hs:s.length<=65535)(hl:l.length+(2+s.length)<=65536):Calls prog 93 #[.pointer (some ⟨p,0,none⟩),.string ⟨s.toArray⟩] w (Bf F p l (aI s) w):=by
 refine(xC h (by omega) s (by omega)).mono ?_;rintro e w' ⟨ok,F',jA,rfl,hw,hs'⟩;have:ok=true:=by rw[jA];unfold fits;rw[Bool.and_eq_true,decide_eq_true_eq,decide_eq_true_eq,cG];exact⟨hs,hl⟩
 subst this;exact⟨F',rfl,by simpa using hw,hs'⟩
theorem wB{w:World}{F:List Nat}{p:Nat}{l:List UInt8}(h:Wr w F p l)(b:Bool)(hl:l.length+1<=65536):Calls prog 127 #[.pointer (some ⟨p,0,none⟩),.bool b] w (Bf F p l (ay 1 (aY b 1)) w):=by
 have C:=af (wN h (aY b 1) 1 (by decide) (by decide) (by cases b<;>decide) hl);clear h hl;cases b with
 |true=>
  have C:Hid (Calls prog 97 #[.pointer (some ⟨p,0,none⟩),.int .u64 1,.int .i64 1] w (Bf F p l (ay 1 (aY true 1)) w)):=C;go_enter func127,ntmps127;go_wp2_with fail
  refine C.mono ?_;rintro e w1 ⟨F1,rfl,bL,hs1⟩;have H:=af (show Bf F p l (ay 1 (aY true 1)) w (.returned (.int .i64 0)) w1 from⟨F1,rfl,bL,hs1⟩);clear bL hs1;go_wp2_with fail;go_ret;exact H.out
 |false=>
  have C:Hid (Calls prog 97 #[.pointer (some ⟨p,0,none⟩),.int .u64 0,.int .i64 1] w (Bf F p l (ay 1 (aY false 1)) w)):=C;go_enter func127,ntmps127;go_wp2_with fail
  refine C.mono ?_;rintro e w1 ⟨F1,rfl,bL,hs1⟩;have H:=af (show Bf F p l (ay 1 (aY false 1)) w (.returned (.int .i64 0)) w1 from⟨F1,rfl,bL,hs1⟩);clear bL hs1;go_wp2_with fail;go_ret;exact H.out
theorem Bg(p:Pk)(h:H3){w:World}{F:List Nat}{q:Nat}{l:List UInt8}(hW:Wr w F q l)(hc:0<=p.code/\p.code<256)(hl:l.length+2<=65536):
  Calls prog 126 #[.pointer (some ⟨q,0,none⟩),.agg (p.cells h).toArray] w (lJ F q l (ay 1 (aY p.present 1)++ay 1 p.code.toNat) w):=by
 obtain⟨pc,bt⟩:=ae ((p.cells h).toArray);obtain⟨W0,hW0⟩:=ae (w.alloc (.cells pc 52));have hb0:Below w.heap.size w W0:=by rw[<-hW0];exact ai.alloc ah _
 have P0:ar W0 w.heap.size pc 52:=by rw[<-hW0];exact ar.new _ _ _
 have S0:=gO.ag (F:=F) hb0;have sW:=hW.ag hb0;have hF:∀x∈F,x<w.heap.size:=hW.lt;rw[bt];have U4:W0.cell? ⟨w.heap.size,19,none⟩=some (.bool p.present):=by rw[P0.cell,<-bt];rfl
 have kc:Hid (∀W,ar W w.heap.size pc 52->W.cell? ⟨w.heap.size,20,none⟩=some (.int .i64 p.code)):=af fun W hb=>by rw[hb.cell,<-bt];rfl
 have C1:=af (wB sW p.present (by omega));obtain⟨b,hb⟩:=ae p.present;obtain⟨c,hcc⟩:=Int.eq_ofNat_of_zero_le hc.1;rw[hb]at U4 C1 ⊢;rw[hcc]at kc hc ⊢;have hc1:c<256:=by omega
 rw[show((c:Nat):Int).toNat=c from rfl];replace P0:=af P0;replace S0:=af S0;replace hF:=af hF;clear bt hb0 sW hc hcc hb hW;go_enter func126,ntmps126;go_wp2_with fail
 refine C1.mono ?_;rintro e w1 ⟨F1,rfl,bL,hs1⟩;have P1:=P0.aw hs1.wrote (fun hm=>by have:=hF _ hm;omega);have Qx:=kc _ P1;have C2:=af (wN bL c 1 (by decide) (by decide) (by omega) (by rw[List.length_append,aO];omega));have S1:=af (S0.trans hs1);obtain⟨z,hz⟩:=ae ((c:Int):Int);have hz0:0<=z:=by omega
 have hz1:z<256:=by omega
 rw[hz]at Qx C2;clear bL hs1 P1 hz;go_wp2_with fail;refine C2.mono ?_;rintro e w2 ⟨F2,rfl,hw2,hs2⟩;have H:=af (show lJ F q l (ay 1 (aY b 1)++ay 1 c) w (.returned (.tuple #[])) w2 from⟨F2,rfl,by rw[<-List.append_assoc];exact hw2,S1.trans hs2⟩);clear hw2 hs2;go_wp2_with fail
 go_end0
 exact H.out
theorem Bh(p:Pk)(h:H3){w:World}{F:List Nat}{q:Nat}{l:List UInt8}(hW:Wr w F q l)(ht:p.topic.length<=65000)(hi:0<p.qos->0<=p.id/\p.id<65536)(hl:l.length+(2+p.topic.length)+2<=65536):
  Calls prog 208 #[.pointer (some ⟨q,0,none⟩),.agg (p.cells h).toArray] w (lJ F q l (aI p.topic++(if 0<p.qos then ay 2 p.id.toNat else[])) w):=by
 obtain⟨pc,bt⟩:=ae ((p.cells h).toArray);obtain⟨W0,hW0⟩:=ae (w.alloc (.cells pc 52));have hb0:Below w.heap.size w W0:=by rw[<-hW0];exact ai.alloc ah _
 have P0:ar W0 w.heap.size pc 52:=by rw[<-hW0];exact ar.new _ _ _
 have S0:=gO.ag (F:=F) hb0;have sW:=hW.ag hb0;have hF:∀x∈F,x<w.heap.size:=hW.lt;rw[bt];have k4:W0.cell? ⟨w.heap.size,4,none⟩=some (.string ⟨p.topic.toArray⟩):=by rw[P0.cell,<-bt];rfl
 have kc:Hid (∀W,ar W w.heap.size pc 52->W.cell? ⟨w.heap.size,3,none⟩=some (.int .i64 p.qos)/\W.cell? ⟨w.heap.size,6,none⟩=some (.int .i64 p.id)):=af fun W hb=>⟨by rw[hb.cell,<-bt];rfl,by rw[hb.cell,<-bt];rfl⟩;have C1:=af (wT sW p.topic (by omega) (by omega));obtain⟨qs,QU⟩:=ae p.qos;rw[QU]at kc hi ⊢;have Ff:=af (show(l++aI p.topic).length+2<=65536 by rw[List.length_append,cG];omega);replace P0:=af P0;replace S0:=af S0;replace hF:=af hF;replace hi:=af hi;obtain⟨m2,kg⟩:=ae (if 0<qs then ay 2 p.id.toNat else[]);rw[kg];have kg:=af kg;clear bt hb0 sW QU hW hl ht;go_enter func208,ntmps208;go_wp2_with fail
 refine C1.mono ?_;rintro e w1 ⟨F1,rfl,bL,hs1⟩;have P1:=P0.aw hs1.wrote (fun hm=>by have:=hF _ hm;omega);obtain⟨k3,k6⟩:=kc _ P1;have S1:=af (S0.trans hs1);clear hs1 P1;by_cases oF:0<qs
 ·obtain⟨c,hcc⟩:=Int.eq_ofNat_of_zero_le (hi oF).1;have hc2:=(hi oF).2;have ow:=af kg.out;rw[if_pos oF,hcc,show((c:Nat):Int).toNat=c from rfl]at ow;rw[hcc]at k6 hc2;have hc1:c<65536:=by omega
  have d:decide (0<qs)=true:=decide_eq_true oF;have C2:=af (wN bL c 2 (by decide) (by decide) (by omega) Ff.out);obtain⟨z,hz⟩:=ae ((c:Int):Int);have hz0:0<=z:=by omega
  have hz1:z<65536:=by omega
  rw[hz]at k6 C2;clear bL hz hcc hc2;go_wp2_with fail;refine C2.mono ?_;rintro e w2 ⟨F2,rfl,hw2,hs2⟩;have H:=af (show lJ F q l (aI p.topic++m2) w (.returned (.tuple #[])) w2 from⟨F2,rfl,by rw[<-ow.out,<-List.append_assoc];exact hw2,S1.trans hs2⟩);clear hw2 hs2;go_wp2_with fail
  go_end0
  exact H.out
 have d:decide (0<qs)=false:=decide_eq_false oF;have ow:=af kg.out;rw[if_neg oF]at ow;have H:=af (show lJ F q l (aI p.topic++m2) w (.returned (.tuple #[])) w1 from⟨F1,rfl,by rw[<-ow.out,List.append_nil];exact bL,S1.out⟩);clear bL;go_wp2_with fail
 go_end0
 exact H.out
theorem dY(fw:FuncId)(b:Nat)(m:List UInt8)(p:Pk)(h:H3){w:World}{F:List Nat}{q:Nat}{l:List UInt8}(hfw:gY fw)(hW:Wr w F q l)(hb:Boxed w (b+3) 147 (bG fw #[]))(hbF:b+3∉F)(hi:0<=p.id/\p.id<65536)(hl:l.length+2<=65536)
  (hc:∀W F1,gO F F1 w W->Wr W F1 q (l++ay 2 p.id.toNat)->Calls prog fw #[.pointer (some ⟨q,0,none⟩),.agg (p.cells h).toArray] W (lJ F1 q (l++ay 2 p.id.toNat) m W)):
  Calls prog 186 #[.pointer (some ⟨q,0,none⟩),.agg (p.cells h).toArray,.pointer (some ⟨b+3,0,none⟩)] w (lJ F q l (ay 2 p.id.toNat++m) w):=by
 rw[show(p.cells h).toArray=(p.cells h).toArray from rfl]at hc;obtain⟨pc,bt⟩:=ae ((p.cells h).toArray);rw[bt]at hc;obtain⟨W0,hW0⟩:=ae (w.alloc (.cells pc 52));have hb0:Below w.heap.size w W0:=by rw[<-hW0];exact ai.alloc ah _
 have P0:ar W0 w.heap.size pc 52:=by rw[<-hW0];exact ar.new _ _ _
 have S0:=gO.ag (F:=F) hb0;have sW:=hW.ag hb0;have hF:∀x∈F,x<w.heap.size:=hW.lt;have X0:=af (aF hb hb0);rw[bt];have k6:W0.cell? ⟨w.heap.size,6,none⟩=some (.int .i64 p.id):=by rw[P0.cell,<-bt];rfl
 have ic:Hid ((prog.info? 52).map (·.size)=some pc.size):=af (by rw[<-bt];exact(by kernel_rfl:(prog.info? 52).map (·.size)=some 24));obtain⟨c,hcc⟩:=Int.eq_ofNat_of_zero_le hi.1;have hc2:=hi.2;rw[hcc]at k6 hc hc2 ⊢;have hc1:c<65536:=by omega
 rw[show((c:Nat):Int).toNat=c from rfl]at hc ⊢;have C1:=af (wN sW c 2 (by decide) (by decide) (by omega) hl);obtain⟨z,hz⟩:=ae ((c:Int):Int);have hz0:0<=z:=by omega
 have hz1:z<65536:=by omega
 rw[hz]at k6 C1;replace P0:=af P0;replace S0:=af S0;replace hF:=af hF;replace hc:=af hc;unfold gY at hfw;clear bt hb0 sW hi hcc hW hl hz hc2 hb;go_enter func186,ntmps186;go_wp2_with fail
 refine C1.mono ?_;rintro e w1 ⟨F1,rfl,bL,hs1⟩;have P1:=P0.aw hs1.wrote (fun hm=>by have:=hF _ hm;omega);have k3:w1.cell? ⟨b+3,0,none⟩=some (bG fw #[]):=(hs1.wrote.boxed hbF X0.out).cell;have S1:=af (S0.trans hs1);have CC:=af (hc w1 F1 S1.out bL);unfold bG at k3;clear bL hs1;go_wp2_with (refine wL 52 rfl rfl P1 underlying52 ?_ rfl rfl ic.out);refine CC.mono ?_;rintro e w2 ⟨F2,rfl,hw2,hs2⟩;have H:=af (show lJ F q l (ay 2 c++m) w (.returned (.tuple #[])) w2 from⟨F2,rfl,by rw[<-List.append_assoc];exact hw2,S1.trans hs2⟩);clear hw2 hs2;go_wp2_with fail
 go_end0
 exact H.out
theorem iZ(v:Array Value){w:World}{F:List Nat}{q:Nat}{l:List UInt8}(hW:Wr w F q l):Calls prog 213 #[.pointer (some ⟨q,0,none⟩),.agg v] w (lJ F q l [] w):=by
 have hb:Below w.heap.size w (w.alloc (.cells v 52)):=ai.alloc ah _;have H:=af (show lJ F q l [] w (.returned (.tuple #[])) (w.alloc (.cells v 52))from⟨F,rfl,by rw[List.append_nil];exact hW.ag hb,gO.ag hb⟩);clear hW hb;go_enter func213,ntmps213;go_wp2_with fail
 go_end0
 exact H.out
theorem jv{α:Type}(enc:α->List UInt8)(xs:List α)(j:Nat):((xs.take j).flatMap enc).length<=(xs.flatMap enc).length:=by
 conv=>rhs;rw[<-List.take_append_drop j xs,List.flatMap_append,List.length_append]
 omega
theorem Bi(p:Pk)(h:H3){w:World}{F:List Nat}{q:Nat}{l:List UInt8}(hW:Wr w F q l)(cd:eN uV 1 w h.f p.filters F)(hn:p.filters.length<=1000)(hx:∀x∈p.filters,x.length<=65535)(hl:l.length+(p.filters.flatMap (aI)).length<=65536):
  Calls prog 153 #[.pointer (some ⟨q,0,none⟩),.agg (p.cells h).toArray] w (lJ F q l (p.filters.flatMap (aI)) w):=by
 obtain⟨pc,bt⟩:=ae ((p.cells h).toArray);obtain⟨W0,hW0⟩:=ae (w.alloc (.cells pc 52));have hb0:Below w.heap.size w W0:=by rw[<-hW0];exact ai.alloc ah _
 have P0:ar W0 w.heap.size pc 52:=by rw[<-hW0];exact ar.new _ _ _
 have S0:=gO.ag (F:=F) hb0;have sW:=hW.ag hb0;have hF:∀x∈F,x<w.heap.size:=hW.lt;rw[bt];obtain⟨xs,pS⟩:=ae p.filters;obtain⟨n,Mh⟩:=ae h.f.n;have k7:W0.cell? ⟨w.heap.size,23,none⟩=some (.slice h.f.a n h.f.c):=by rw[P0.cell,<-bt,<-Mh];rfl
 rw[pS]at cd hn hx hl ⊢;have HL:Hid (xs.length=n):=af (by rw[<-Mh];exact cd.eM.len);have hn:n<=1000:=by rw[<-HL];exact hn
 have HV:=af cd;have hx:=af hx;have hl:=af hl;have hlt:=af hF;replace P0:=af P0;have sW:=af sW;have S0:=af S0;have hB0:=af hb0;obtain⟨aa,Gc⟩:=ae h.f.a;obtain⟨cc,hcc⟩:=ae h.f.c;rw[Gc,hcc]at k7;have Gc:=af Gc;clear bt hF cd pS Mh hW hcc hb0;go_enter func153,ntmps153;go_wp2_with fail
 go_loopw [9] (fun i wr=>∃(j:Nat)(F1:List Nat),i=.int .i64 j/\j<=n/\Hid (Wr wr F1 q (l++(xs.take j).flatMap (aI)))/\Hid (gO F F1 w wr)) (fun i _=>n-(intOf i).toNat)
 case atStart=>exact⟨0,F,by go_num,Nat.zero_le _,by simpa using sW,S0⟩
 case round=>
  obtain⟨j,F1,rfl,hj,tO,hS⟩:=hrel;by_cases Js:j<n
  ·obtain⟨x,vQ⟩:∃x,xs[j]?=some x:=⟨_,List.getElem?_eq_getElem (by rw[HL];exact Js)⟩;obtain⟨b,off,ha,hbl,hrg⟩:=HV.eM.eM j x vQ;have hblk:wr.heap[b]?=w.heap[b]?:=hS.out.wrote.block b hbl (HV.off (List.ne_nil_of_mem (List.mem_of_getElem? vQ)) _ ha);have fF:=af (hx x (List.mem_of_getElem? vQ));have my:Hid ((xs.take (j+1)).flatMap (aI)=(xs.take j).flatMap (aI)++(aI) x):=af (by rw[List.take_add_one,vQ,List.flatMap_append];simp)
   have iR:Hid ((l++(xs.take j).flatMap (aI)).length+((aI) x).length<=65536):=af (by have h1:=jv (aI) xs (j+1);rw[my,List.length_append]at h1;have h2:=hl.out;rw[List.length_append];omega)
   rw[Gc.out]at ha;have hcell:wr.cell? ⟨b,off+j,none⟩=some (.string ⟨x.toArray⟩):=by have h1:=hrg 0 (.string ⟨x.toArray⟩) rfl;unfold World.cell? at h1 ⊢;rw[hblk];simpa using h1
   subst ha;clear hrg hbl hblk vQ;have C1:=af (wT tO.out x fF.out (by have:=iR.out;rw[cG]at this;omega));go_wp2_with fail
   refine C1.mono ?_;rintro e w1 ⟨F2,rfl,bL,hs1⟩;have Ca:Hid (Wr w1 F2 q (l++(xs.take (j+1)).flatMap (aI))):=af (by rw[my,<-List.append_assoc];exact bL);have Cw:=af (hS.out.trans hs1);clear bL hs1;go_wp2_with fail;go_roundw
   case rel=>exact⟨j+1,F2,by go_num,by omega,Ca,Cw⟩
   case measure=>simp[intOf];omega
  obtain rfl:j=n:=by omega
  rw[List.take_of_length_le (by rw[HL];exact Nat.le_refl _)]at tO;have H:=af (show lJ F q l (xs.flatMap (aI)) w (.returned (.tuple #[])) wr from⟨F1,rfl,tO.out,hS.out⟩);clear tO;go_wp2_with fail
  go_end0
  exact H.out
theorem Bj(p:Pk)(h:H3){w:World}{F:List Nat}{q:Nat}{l:List UInt8}(hW:Wr w F q l)(cd:eN jD 1 w h.c p.codes F)(hn:p.codes.length<=1000)(hx:∀x∈p.codes,0<=x/\x<256)(hl:l.length+(p.codes.flatMap (fun c=>ay 1 c.toNat)).length<=65536):
  Calls prog 146 #[.pointer (some ⟨q,0,none⟩),.agg (p.cells h).toArray] w (lJ F q l (p.codes.flatMap (fun c=>ay 1 c.toNat)) w):=by
 obtain⟨pc,bt⟩:=ae ((p.cells h).toArray);obtain⟨W0,hW0⟩:=ae (w.alloc (.cells pc 52));have hb0:Below w.heap.size w W0:=by rw[<-hW0];exact ai.alloc ah _
 have P0:ar W0 w.heap.size pc 52:=by rw[<-hW0];exact ar.new _ _ _
 have S0:=gO.ag (F:=F) hb0;have sW:=hW.ag hb0;have hF:∀x∈F,x<w.heap.size:=hW.lt;rw[bt];obtain⟨xs,pS⟩:=ae p.codes;obtain⟨n,Mh⟩:=ae h.c.n;have k7:W0.cell? ⟨w.heap.size,22,none⟩=some (.slice h.c.a n h.c.c):=by rw[P0.cell,<-bt,<-Mh];rfl
 rw[pS]at cd hn hx hl ⊢;have HL:Hid (xs.length=n):=af (by rw[<-Mh];exact cd.eM.len);have hn:n<=1000:=by rw[<-HL];exact hn
 have HV:=af cd;have hx:=af hx;have hl:=af hl;have hlt:=af hF;replace P0:=af P0;have sW:=af sW;have S0:=af S0;have hB0:=af hb0;obtain⟨aa,Gc⟩:=ae h.c.a;obtain⟨cc,hcc⟩:=ae h.c.c;rw[Gc,hcc]at k7;have Gc:=af Gc;clear bt hF cd pS Mh hW hcc hb0;go_enter func146,ntmps146;go_wp2_with fail
 go_loopw [9] (fun i wr=>∃(j:Nat)(F1:List Nat),i=.int .i64 j/\j<=n/\Hid (Wr wr F1 q (l++(xs.take j).flatMap (fun c=>ay 1 c.toNat)))/\Hid (gO F F1 w wr)) (fun i _=>n-(intOf i).toNat)
 case atStart=>exact⟨0,F,by go_num,Nat.zero_le _,by simpa using sW,S0⟩
 case round=>
  obtain⟨j,F1,rfl,hj,tO,hS⟩:=hrel;by_cases Js:j<n
  ·obtain⟨x,vQ⟩:∃x,xs[j]?=some x:=⟨_,List.getElem?_eq_getElem (by rw[HL];exact Js)⟩;obtain⟨b,off,ha,hbl,hrg⟩:=HV.eM.eM j x vQ;have hblk:wr.heap[b]?=w.heap[b]?:=hS.out.wrote.block b hbl (HV.off (List.ne_nil_of_mem (List.mem_of_getElem? vQ)) _ ha);have fF:=af (hx x (List.mem_of_getElem? vQ));have my:Hid ((xs.take (j+1)).flatMap (fun c=>ay 1 c.toNat)=(xs.take j).flatMap (fun c=>ay 1 c.toNat)++(fun c=>ay 1 c.toNat) x):=af (by rw[List.take_add_one,vQ,List.flatMap_append];simp)
   have iR:Hid ((l++(xs.take j).flatMap (fun c=>ay 1 c.toNat)).length+((fun c=>ay 1 c.toNat) x).length<=65536):=af (by have h1:=jv (fun c=>ay 1 c.toNat) xs (j+1);rw[my,List.length_append]at h1;have h2:=hl.out;rw[List.length_append];omega)
   rw[Gc.out]at ha;obtain⟨c,XI⟩:=Int.eq_ofNat_of_zero_le fF.1;subst XI;have hc1:c<256:=by have:=fF.2;omega
   have hcell:wr.cell? ⟨b,off+j,none⟩=some (.int .i64 (c:Int)):=by have h1:=hrg 0 (.int .i64 (c:Int)) rfl;unfold World.cell? at h1 ⊢;rw[hblk];simpa using h1
   subst ha;clear hrg hbl hblk vQ;have C1:=af (wN tO.out c 1 (by decide) (by decide) (by omega) (by have:=iR.out;rw[aO]at this;omega));have my:Hid ((xs.take (j+1)).flatMap (fun c=>ay 1 c.toNat)=(xs.take j).flatMap (fun c=>ay 1 c.toNat)++ay 1 c):=my;obtain⟨z,hz⟩:=ae ((c:Int):Int);have hz0:0<=z:=by omega
   have hz1:z<256:=by omega
   rw[hz]at hcell C1;replace iR:=af hl.out;replace fF:=af hl.out;clear hz;go_wp2_with fail;refine C1.mono ?_;rintro e w1 ⟨F2,rfl,bL,hs1⟩;have Ca:Hid (Wr w1 F2 q (l++(xs.take (j+1)).flatMap (fun c=>ay 1 c.toNat))):=af (by rw[my,<-List.append_assoc];exact bL);have Cw:=af (hS.out.trans hs1);clear bL hs1;go_wp2_with fail;go_roundw
   case rel=>exact⟨j+1,F2,by go_num,by omega,Ca,Cw⟩
   case measure=>simp[intOf];omega
  obtain rfl:j=n:=by omega
  rw[List.take_of_length_le (by rw[HL];exact Nat.le_refl _)]at tO;have H:=af (show lJ F q l (xs.flatMap (fun c=>ay 1 c.toNat)) w (.returned (.tuple #[])) wr from⟨F1,rfl,tO.out,hS.out⟩);clear tO;go_wp2_with fail
  go_end0
  exact H.out
theorem Bk(p:Pk)(h:H3){w:World}{F:List Nat}{q:Nat}{l:List UInt8}(hW:Wr w F q l)(cd:eN bM.cl 2 w h.w p.wants F)(hn:p.wants.length<=1000)(hx:∀x∈p.wants,x.filter.length<=65535/\0<=x.qos/\x.qos<256)(hl:l.length+(p.wants.flatMap (cF)).length<=65536):
  Calls prog 137 #[.pointer (some ⟨q,0,none⟩),.agg (p.cells h).toArray] w (lJ F q l (p.wants.flatMap (cF)) w):=by
 obtain⟨pc,bt⟩:=ae ((p.cells h).toArray);obtain⟨W0,hW0⟩:=ae (w.alloc (.cells pc 52));have hb0:Below w.heap.size w W0:=by rw[<-hW0];exact ai.alloc ah _
 have P0:ar W0 w.heap.size pc 52:=by rw[<-hW0];exact ar.new _ _ _
 have S0:=gO.ag (F:=F) hb0;have sW:=hW.ag hb0;have hF:∀x∈F,x<w.heap.size:=hW.lt;rw[bt];obtain⟨xs,pS⟩:=ae p.wants;obtain⟨n,Mh⟩:=ae h.w.n;have k7:W0.cell? ⟨w.heap.size,21,none⟩=some (.slice h.w.a n h.w.c):=by rw[P0.cell,<-bt,<-Mh];rfl
 rw[pS]at cd hn hx hl ⊢;have HL:Hid (xs.length=n):=af (by rw[<-Mh];exact cd.eM.len);have hn:n<=1000:=by rw[<-HL];exact hn
 have HV:=af cd;have hx:=af hx;have hl:=af hl;have hlt:=af hF;replace P0:=af P0;have sW:=af sW;have S0:=af S0;have hB0:=af hb0;obtain⟨aa,Gc⟩:=ae h.w.a;obtain⟨cc,hcc⟩:=ae h.w.c;rw[Gc,hcc]at k7;have Gc:=af Gc;clear bt hF cd pS Mh hW hcc hb0;go_enter func137,ntmps137;go_wp2_with fail
 go_loopw [9] (fun i wr=>∃(j:Nat)(F1:List Nat),i=.int .i64 j/\j<=n/\Hid (Wr wr F1 q (l++(xs.take j).flatMap (cF)))/\Hid (gO F F1 w wr)) (fun i _=>n-(intOf i).toNat)
 case atStart=>exact⟨0,F,by go_num,Nat.zero_le _,by simpa using sW,S0⟩
 case round=>
  obtain⟨j,F1,rfl,hj,tO,hS⟩:=hrel;by_cases Js:j<n
  ·obtain⟨x,vQ⟩:∃x,xs[j]?=some x:=⟨_,List.getElem?_eq_getElem (by rw[HL];exact Js)⟩;obtain⟨b,off,ha,hbl,hrg⟩:=HV.eM.eM j x vQ;have hblk:wr.heap[b]?=w.heap[b]?:=hS.out.wrote.block b hbl (HV.off (List.ne_nil_of_mem (List.mem_of_getElem? vQ)) _ ha);have fF:=af (hx x (List.mem_of_getElem? vQ));have my:Hid ((xs.take (j+1)).flatMap (cF)=(xs.take j).flatMap (cF)++(cF) x):=af (by rw[List.take_add_one,vQ,List.flatMap_append];simp)
   have iR:Hid ((l++(xs.take j).flatMap (cF)).length+((cF) x).length<=65536):=af (by have h1:=jv (cF) xs (j+1);rw[my,List.length_append]at h1;have h2:=hl.out;rw[List.length_append];omega)
   rw[Gc.out]at ha;have jy:wr.rangeAt b (off+j*2) x.cl:=fun i v hi=>by have h1:=hrg i v hi;unfold World.cell? at h1 ⊢;rw[hblk];exact h1
   subst ha;obtain⟨fl,qo⟩:=x;obtain⟨c,XI⟩:=Int.eq_ofNat_of_zero_le fF.2.1;have XI:qo=(c:Int):=XI;subst XI;have hc1:c<256:=by have h9:=fF.2.2;have h9:(c:Int)<256:=h9;omega
   have acd:Hid (fl.length<=65535):=af fF.1;have my:Hid ((xs.take (j+1)).flatMap cF=(xs.take j).flatMap cF++(aI fl++ay 1 c)):=my;have iR:Hid ((l++(xs.take j).flatMap cF).length+((2+fl.length)+1)<=65536):=af (by have h9:=iR.out;rw[show(cF ⟨fl,(c:Int)⟩).length=2+fl.length+1 by show(aI fl++ay 1 c).length=_;rw[List.length_append,cG,aO]]at h9;exact h9);obtain⟨z,hz⟩:=ae ((c:Int):Int);have hz0:0<=z:=by omega
   have hz1:z<256:=by omega
   have jy:wr.rangeAt b (off+j*2) [.string ⟨fl.toArray⟩,.int .i64 z]:=by rw[<-hz];exact jy
   have aV:Hid (∀v∈#[Value.string ⟨fl.toArray⟩,.int .i64 z].toList,v.oneCell'=true):=af (by simp[Value.oneCell']);have hz:=af hz;clear hrg hbl hblk vQ fF;go_upto_region 4 with(first
    | (refine sF 169 rfl rfl jy underlying169 ?_)
    | (refine wS 169 2 rfl _ _ #[.string ⟨fl.toArray⟩,.int .i64 z] rfl rfl (ar.new _ _ _) rfl (by rfl) aV.out ?_;intro w3 hw3 hr3))
   have b3:Below wr.heap.size wr w3:=(ai.alloc ah _).trans (hr3.ag (by simp) (by simp));have hs3:wr.heap.size+1<=w3.heap.size:=by have:=hr3.size;simp at this;omega
   have W3:=tO.out.ag b3;have S3:=af (hS.out.trans (gO.ag (F:=F1) b3));have hF1:=af tO.out.lt;have k0:w3.cell? ⟨wr.heap.size,0,none⟩=some (.string ⟨fl.toArray⟩):=hw3.cell 0;have C1:=af (wT W3 fl acd.out (by have:=iR.out;omega));have Y3:=af hw3;clear hr3 b3 jy W3 hw3;try simp only[PT]
   go_wp2_with fail
   refine C1.mono ?_;rintro e w4 ⟨F2,rfl,hw4,Ip⟩;have k1:w4.cell? ⟨wr.heap.size,1,none⟩=some (.int .i64 z):=(Y3.aw Ip.wrote (fun hm=>by have:=hF1 _ hm;omega)).cell 1;have C2:=af (wN hw4 c 1 (by decide) (by decide) (by omega) (by rw[List.length_append,cG];have:=iR.out;omega));rw[hz.out]at C2;have S4:=af (S3.trans Ip);clear hw4 Ip k0;go_wp2_with fail;refine C2.mono ?_;rintro e w5 ⟨F3,rfl,eo,hs5⟩;have Ca:Hid (Wr w5 F3 q (l++(xs.take (j+1)).flatMap cF)):=af (by rw[my,<-List.append_assoc,<-List.append_assoc,List.append_assoc l];rw[List.append_assoc l]at eo;exact eo);have Cw:=af (S4.trans hs5);clear eo hs5 k1;go_wp2_with fail;go_roundw
   case rel=>exact⟨j+1,F3,by go_num,by omega,Ca,Cw⟩
   case measure=>simp[intOf];omega
  obtain rfl:j=n:=by omega
  rw[List.take_of_length_le (by rw[HL];exact Nat.le_refl _)]at tO;have H:=af (show lJ F q l (xs.flatMap (cF)) w (.returned (.tuple #[])) wr from⟨F1,rfl,tO.out,hS.out⟩);clear tO;go_wp2_with fail
  go_end0
  exact H.out
def oO(p:Pk):List UInt8:=aI gS++(ay 1 4++(ay 1 (dT p)++(ay 2 p.keep.toNat++aI p.client)))
def jV(p:Pk):List (Bool×List UInt8):=[(p.hasWill,p.will.topic),(p.hasWill,p.will.body),(p.hasUser,p.user),(p.hasPass,p.pass)]
def iC(x:Bool×List UInt8):List UInt8:=if x.1 then aI x.2 else[]
def Mp(x:Bool×List UInt8):List Value:=[.bool x.1,.string ⟨x.2.toArray⟩]
theorem Mq(p:Pk)(hk:p.kind=1):bj p=oO p++(jV p).flatMap iC:=by unfold bj oO jV iC;rw[if_pos hk];cases p.hasWill<;>cases p.hasUser<;>cases p.hasPass<;>simp
structure TX (F:List Nat)(q:Nat)(l:List UInt8)(w:World)(pc:Array Value)(m:List UInt8)(F1:List Nat)(W:World):Prop where
 wr:Wr W F1 q (l++m)
 Qj:gO F F1 w W
 pk:ar W w.heap.size pc 52
 off:w.heap.size∉F1
theorem TX.step{F:List Nat}{q:Nat}{l:List UInt8}{w:World}{pc:Array Value}{m m':List UInt8}{F1 F2:List Nat}{W W':World}(h:TX F q l w pc m F1 W)(hw:Wr W' F2 q (l++m++m'))(hs:gO F1 F2 W W'):TX F q l w pc (m++m') F2 W':=
 ⟨by rw[<-List.append_assoc];exact hw,h.Qj.trans hs,h.pk.aw hs.wrote h.off,hs.not h.off h.pk.lt⟩
theorem TX.ag{F:List Nat}{q:Nat}{l:List UInt8}{w:World}{pc:Array Value}{m:List UInt8}{F1:List Nat}{W W':World}(h:TX F q l w pc m F1 W)(hb:Below W.heap.size W W'):TX F q l w pc m F1 W':=
 ⟨h.wr.ag hb,h.Qj.trans (gO.ag hb),h.pk.ag hb,h.off⟩
theorem Bo(p:Pk)(h:H3){w:World}{F:List Nat}{q:Nat}{l:List UInt8}(hW:Wr w F q l)(hN:dT p<256)(hk:0<=p.keep/\p.keep<65536)(hq:0<=p.will.qos/\p.will.qos<=3)(jy:p.client.length<=65535)(hx:∀x∈jV p,x.2.length<=65535)(hl:l.length+(oO p).length+((jV p).flatMap iC).length<=65536):
  Calls prog 201 #[.pointer (some ⟨q,0,none⟩),.agg (p.cells h).toArray] w (lJ F q l (oO p++(jV p).flatMap iC) w):=by
 have WO:(oO p).length=6+(1+(1+(2+(2+p.client.length)))):=by unfold oO;rw[List.length_append,List.length_append,List.length_append,List.length_append,cG,cG,aO,aO,aO];rfl
 rw[WO]at hl;obtain⟨pc,bt⟩:=ae ((p.cells h).toArray);obtain⟨W0,hW0⟩:=ae (w.alloc (.cells pc 52));have hb0:Below w.heap.size w W0:=by rw[<-hW0];exact ai.alloc ah _
 have P0:ar W0 w.heap.size pc 52:=by rw[<-hW0];exact ar.new _ _ _
 have S0:=gO.ag (F:=F) hb0;have sW:=hW.ag hb0;have hF:∀x∈F,x<w.heap.size:=hW.lt;rw[bt];have ic:Hid ((prog.info? 52).map (·.size)=some pc.size):=af (by rw[<-bt];exact(by kernel_rfl:(prog.info? 52).map (·.size)=some 24));have CC:=af (fun W=>sP p h W hq);rw[bt]at CC;have HWx:=af sW;replace P0:=af P0;replace S0:=af S0;replace hF:=af hF;replace WO:=af WO;obtain⟨cn,zr⟩:=ae (dT p);rw[zr]at hN CC;have zr:=af zr;obtain⟨cz,dR⟩:=ae ((cn:Int):Int);rw[dR]at CC;have hz0:0<=cz:=by omega
 have hz1:cz<256:=by omega
 have dR:=af dR;obtain⟨kk,oH⟩:=Int.eq_ofNat_of_zero_le hk.1;have hk2:kk<65536:=by omega
 have Mr:0<=p.keep:=hk.1;have aci:p.keep<65536:=hk.2;have kc:Hid (∀W,ar W w.heap.size pc 52->W.cell? ⟨w.heap.size,9,none⟩=some (.int .i64 p.keep)/\W.cell? ⟨w.heap.size,7,none⟩=some (.string ⟨p.client.toArray⟩)/\W.cell? ⟨w.heap.size,10,none⟩=some (.bool p.hasWill)/\W.cell? ⟨w.heap.size,11,none⟩=some (.string ⟨p.will.topic.toArray⟩)/\W.cell? ⟨w.heap.size,12,none⟩=some (.string ⟨p.will.body.toArray⟩)/\W.cell? ⟨w.heap.size,15,none⟩=some (.bool p.hasUser)/\W.cell? ⟨w.heap.size,17,none⟩=some (.string ⟨p.user.toArray⟩)/\W.cell? ⟨w.heap.size,16,none⟩=some (.bool p.hasPass)/\W.cell? ⟨w.heap.size,18,none⟩=some (.string ⟨p.pass.toArray⟩)):=af fun W hb=>by rw[<-bt]at hb;exact⟨hb.cell 9,hb.cell 7,hb.cell 10,hb.cell 11,hb.cell 12,hb.cell 15,hb.cell 17,hb.cell 16,hb.cell 18⟩
 replace hx:=af hx;clear bt hb0 sW hW hk hq;have H0:=af (show TX F q l w pc [] F W0 from⟨by rw[List.append_nil];exact HWx.out,S0.out,P0.out,fun hm=>by have:=hF _ hm;omega⟩);obtain⟨ln,Qq⟩:=ae l.length;rw[Qq]at hl;have L0:Hid ((l++([]:List UInt8)).length=ln):=af (by rw[List.append_nil,Qq]);obtain⟨il,XU⟩:=ae (((jV p).flatMap iC).length);rw[XU]at hl;replace XU:=af XU;obtain⟨kz,TY⟩:=ae p.keep;rw[TY]at kc Mr aci;have acj:Hid ((kk:Int)=kz):=af (by rw[<-TY];exact oH.symm);have ack:Hid (p.keep.toNat=kk):=af (by rw[oH];rfl);have C1:Hid (Calls prog 93 #[.pointer (some ⟨q,0,none⟩),.string ⟨#[77,81,84,84]⟩] W0 (Bf F q (l++[]) (aI gS) W0)):=af (wT H0.wr gS (by decide) (by show(l++[]).length+6<=65536;rw[L0];omega));clear S0 P0 hF HWx Qq oH TY;go_enter func201,ntmps201;go_wp2_with fail
 refine C1.mono ?_;rintro e w1 ⟨F1,rfl,hwx,Ge⟩;have H1:=af (H0.step hwx Ge);have L1:Hid ((l++([]++aI gS)).length=ln+6):=af (by rw[<-List.append_assoc,List.length_append,L0];rfl);clear hwx Ge;have C2:=af (wN H1.wr 4 1 (by decide) (by decide) (by decide) (by rw[L1];omega));go_wp2_with fail
 refine C2.mono ?_;rintro e w2 ⟨F2,rfl,hwx,Ge⟩;have H2:=af (H1.step hwx Ge);have L2:Hid ((l++(([]++aI gS)++ay 1 4)).length=ln+7):=af (by rw[<-List.append_assoc,List.length_append,L1];rw[aO]);clear hwx Ge;have p2:=H2.pk;have C3:=af (CC w2);go_wp2_with (refine wL 52 rfl rfl p2 underlying52 ?_ rfl rfl ic.out)
 refine C3.mono ?_;rintro e w3 ⟨rfl,hb3⟩;have H3':=af (H2.ag hb3);have C4:=af (wN H3'.wr cn 1 (by decide) (by decide) (by omega) (by rw[L2];omega));rw[dR.out]at C4;clear hb3 p2;go_wp2_with fail;refine C4.mono ?_;rintro e w4 ⟨F4,rfl,hwx,Ge⟩;have H4:=af (H3'.step hwx Ge);have L4:Hid ((l++(([]++aI gS++ay 1 4)++ay 1 cn)).length=ln+8):=af (by rw[<-List.append_assoc,List.length_append,L2];rw[aO]);clear hwx Ge;have k9:=(kc _ H4.pk).1;have C5:=af (wN H4.wr kk 2 (by decide) (by decide) (by omega) (by rw[L4];omega));rw[acj]at C5;go_wp2_with fail
 refine C5.mono ?_;rintro e w5 ⟨F5,rfl,hwx,Ge⟩;have H5:=af (H4.step hwx Ge);have L5:Hid ((l++(([]++aI gS++ay 1 4++ay 1 cn)++ay 2 kk)).length=ln+10):=af (by rw[<-List.append_assoc,List.length_append,L4];rw[aO]);clear hwx Ge;have k7:=(kc _ H5.pk).2.1;have C6:=af (wT H5.wr p.client jy (by rw[L5];omega));clear k9;go_wp2_with fail;refine C6.mono ?_;rintro e w6 ⟨F6,rfl,hwx,Ge⟩;have H6:=af (H5.step hwx Ge);have L6:Hid ((l++(([]++aI gS++ay 1 4++ay 1 cn++ay 2 kk)++aI p.client)).length=ln+12+p.client.length):=af (by rw[<-List.append_assoc,List.length_append,L5];rw[cG];omega);clear hwx Ge;clear k7;obtain⟨-, -,gI,Gd,Pn,Fz,KX,yC,Jz⟩:=kc _ H6.pk;go_upto_region 7 with fail
 obtain⟨xs,pS⟩:=ae (jV p);obtain⟨W7,Lh⟩:=ae (w6.alloc (.cells #[.bool p.hasWill,.string ⟨p.will.topic.toArray⟩,.bool p.hasWill,.string ⟨p.will.body.toArray⟩,.bool p.hasUser,.string ⟨p.user.toArray⟩,.bool p.hasPass,.string ⟨p.pass.toArray⟩] 243));have hL7:aW Mp 2 W7 (some ⟨w6.heap.size,0,none⟩) 4 4 xs:=by rw[<-Lh,<-pS];exact cX (f:=Mp) (size:=2) (e:=243) (fun x=>rfl) (World.ownsRow_lit w6 #[.bool p.hasWill,.string ⟨p.will.topic.toArray⟩,.bool p.hasWill,.string ⟨p.will.body.toArray⟩,.bool p.hasUser,.string ⟨p.user.toArray⟩,.bool p.hasPass,.string ⟨p.pass.toArray⟩] 4 ah (by decide) rfl) rfl
 have HL:Hid (xs.length=4):=af (by rw[<-pS];rfl);have b7:Below w6.heap.size w6 W7:=by rw[<-Lh];exact ai.alloc ah _
 have H7:=af (H6.ag b7);have xt:Hid (w6.heap.size∉F6):=af (fun hm=>by have:=H6.wr.lt _ hm;omega);obtain⟨g,hg⟩:=ae w6.heap.size;rw[hg]at hL7 xt ⊢;rw[Lh];rw[pS]at hx XU;have HV:=af hL7;have pS:=af pS;clear hL7 b7 hg Lh gI Gd Pn Fz yC KX Jz;obtain⟨m6,tx⟩:=ae ([]++aI gS++ay 1 4++ay 1 cn++ay 2 kk++aI p.client);rw[tx]at H7 L6;have tx:=af tx;go_loopw [48] (fun i wr=>∃(j:Nat)(F1:List Nat),i=.int .i64 j/\j<=4/\Hid (Wr wr F1 q (l++m6++(xs.take j).flatMap iC))/\Hid (gO F6 F1 W7 wr)) (fun i _=>4-(intOf i).toNat)
 case atStart=>exact⟨0,F6,by go_num,Nat.zero_le _,af (by simpa using H7.wr),af (gO.refl _ _)⟩
 case round=>
  obtain⟨j,F1,rfl,hj,tO,hS⟩:=hrel;by_cases Js:j<4
  ·obtain⟨x,vQ⟩:∃x,xs[j]?=some x:=⟨_,List.getElem?_eq_getElem (by rw[HL];exact Js)⟩;obtain⟨b,off,ha,hbl,hrg⟩:=HV.eM j x vQ;cases ha;have hblk:wr.heap[g]?=W7.heap[g]?:=hS.out.wrote.block g hbl xt.out;have fF:=af (hx x (List.mem_of_getElem? vQ));have my:Hid ((xs.take (j+1)).flatMap iC=(xs.take j).flatMap iC++iC x):=af (by rw[List.take_add_one,vQ,List.flatMap_append];simp)
   have iR:Hid ((l++m6++(xs.take j).flatMap iC).length+(iC x).length<=65536):=af (by have h1:=jv iC xs (j+1);rw[my,List.length_append,XU.out]at h1;rw[List.length_append,L6];omega)
   have jy:wr.rangeAt g (0+j*2) (Mp x):=fun i v hi=>by have h1:=hrg i v hi;unfold World.cell? at h1 ⊢;rw[hblk];exact h1
   obtain⟨bx,sx⟩:=x;have jy:wr.rangeAt g (j*2) [.bool bx,.string ⟨sx.toArray⟩]:=by rw[show j*2=0+j*2 by omega];exact jy
   have aV:Hid (∀v∈#[Value.bool bx,.string ⟨sx.toArray⟩].toList,v.oneCell'=true):=af (by simp[Value.oneCell']);clear hrg hbl hblk vQ;go_upto_region 9 with(first
    | (refine sF 243 rfl rfl jy underlying243 ?_)
    | (refine wS 243 2 rfl _ _ #[.bool bx,.string ⟨sx.toArray⟩] rfl rfl (ar.new _ _ _) rfl (by rfl) aV.out ?_;intro v3 hw3 hr3))
   have b3:Below wr.heap.size wr v3:=(ai.alloc ah _).trans (hr3.ag (by simp) (by simp));have V3:=tO.out.ag b3;have S3:=af (hS.out.trans (gO.ag (F:=F1) b3));have k0:v3.cell? ⟨wr.heap.size,0,none⟩=some (.bool bx):=hw3.cell 0;have k1:v3.cell? ⟨wr.heap.size,1,none⟩=some (.string ⟨sx.toArray⟩):=hw3.cell 1;have W3:=af V3;clear hr3 b3 jy V3 hw3;try simp only[PT]
   cases bx with
   |true=>
    have C1:=af (wT W3.out sx fF.out (by have h9:=iR.out;rw[show(iC (true,sx)).length=2+sx.length from cG sx]at h9;omega));go_wp2_with fail
    refine C1.mono ?_;rintro e v4 ⟨F2,rfl,hw4,Ip⟩;have Ca:Hid (Wr v4 F2 q (l++m6++(xs.take (j+1)).flatMap iC)):=af (by rw[my,<-List.append_assoc];exact hw4);have Cw:=af (S3.trans Ip);clear hw4 Ip;go_wp2_with fail;go_roundw
    case rel=>exact⟨j+1,F2,by go_num,by omega,Ca,Cw⟩
    case measure=>simp[intOf];omega
   |false=>
    have Ca:Hid (Wr v3 F1 q (l++m6++(xs.take (j+1)).flatMap iC)):=af (by rw[my.out,show iC (false,sx)=[]from rfl,List.append_nil];exact W3.out);go_wp2_with fail
    go_roundw
    case rel=>exact⟨j+1,F1,by go_num,by omega,Ca,S3⟩
    case measure=>simp[intOf];omega
  obtain rfl:j=4:=by omega
  rw[List.take_of_length_le (by rw[HL];exact Nat.le_refl _)]at tO;have hhd:Hid (oO p=m6):=af (by unfold oO;rw[zr.out,ack,<-tx.out];simp only[List.append_assoc,List.nil_append])
  have H:=af (show lJ F q l (oO p++(jV p).flatMap iC) w (.returned (.tuple #[])) wr from⟨F1,rfl,by rw[hhd,pS.out,<-List.append_assoc];exact tO.out,H7.Qj.trans hS.out⟩);clear tO;go_wp2_with fail
  go_end0
  exact H.out
end
end Go.Proofs.YtkghejaimhoboaaGreatDoor
