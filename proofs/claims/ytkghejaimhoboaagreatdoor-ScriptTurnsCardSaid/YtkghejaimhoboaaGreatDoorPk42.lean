/- Parts of the proof of ScriptTurns. -/
import Derived.Test.YtkghejaimhoboaaGreatDoorPk40
import Derived.Deep.CutBlock
import Derived.Test.YtkghejaimhoboaaGreatDoorPk41
import Derived.Test.YtkghejaimhoboaaGreatDoorPk39
set_option linter.unusedSimpArgs false
set_option linter.unusedVariables false
set_option maxRecDepth 100000
set_option maxHeartbeats 8000000
namespace Go.Proofs.YtkghejaimhoboaaGreatDoor
open Go.RowKit Go.Shelf Go.Proofs.Tryz
section
theorem ek{P:Prop}(h:P:=by
 go_wp2_with (refine wS 52 24 rfl w.heap.size _ ((aN 0).cells bo).toArray rfl rfl gR rfl rfl cH.out ?_;intro w9 cC dN)
 refine bodyPost_ret (aS results76 rfl (aj cC 52 underlying52 rfl (by kernel_rfl)) rfl) rfl ?_;exact⟨gL.trans (dN.ag gL.size (by simp)),.inl ⟨hno.out,rfl⟩⟩):P:=h
theorem nK{P:Prop}(h:P:=by
 refine gC.mono ?_;rintro e w4 ⟨hb4,⟨hno,cs,rfl,hcs,aV⟩ | ⟨y,h,cq,rfl,cd⟩⟩
 ·have L4:=L3.step hb4;have hno:=af hno;have hcs:=af hcs;have aV:=af aV;clear hb4;go_wp2_with (refine wS 52 24 rfl (w.heap.size+1) _ cs rfl rfl L4.pk hcs.out rfl aV.out ?_;intro w5 eo fh);have S5:Hid (M6 w _ (.bool false) w5):=af ⟨cs,L4.put eo fh,.inl ⟨hno.out,rfl,hcs.out,aV.out⟩⟩;clear L4 eo fh;go_meet
  case rel=>exact S5
 have L4:=L3.step hb4;have cq:=af cq;have cd:=af (cd.mono L3.size);obtain⟨cs,hcs⟩:∃cs,(({y with kind:=0}:Pk).cells h).toArray=cs:=⟨_,rfl⟩;have dR:Hid (cs.size=24):=af (by rw[<-hcs];rfl);have aV:Hid (∀v∈cs.toList,v.oneCell'=true):=af (by rw[<-hcs];exact Pk.one _ _);rw[hcs];replace hcs:=af hcs;clear hb4;go_wp2_with (refine wS 52 24 rfl (w.heap.size+1) _ cs rfl rfl L4.pk dR.out rfl aV.out ?_;intro w5 eo fh);have S5:Hid (M6 w _ (.bool true) w5):=af ⟨cs,L4.put eo fh,.inr ⟨y,h,cq.out,rfl,hcs.symm,cd.wrote fh (by simp)⟩⟩;clear L4 eo fh;go_meet
 case rel=>exact S5):P:=h
attribute [local go_sem] Oper.semAt_some
theorem Jg{k:Int}{f:Nat}{l:List UInt8}{p:Pk}(h:nh k f l=some p):p.kind=k:=by
 unfold nh at h;split at h
 ·rename_i hk;unfold pD at h;split at h
  ·cases h
  obtain⟨x,h1,h⟩:=Option.bind_eq_some_iff.1 h;cases h;exact hk.symm
 split at h
 ·rename_i hk;cases h;exact hk.1.symm
 split at h
 ·rename_i hk;obtain⟨x,h1,h⟩:=Option.bind_eq_some_iff.1 h;cases h;unfold jm at h1;obtain⟨t,h2,h1⟩:=Option.bind_eq_some_iff.1 h1;obtain⟨i,h3,h1⟩:=Option.bind_eq_some_iff.1 h1;cases h1;exact hk.symm
 split at h
 ·unfold kN at h;split at h
  ·rename_i hk;obtain⟨x,h1,h⟩:=Option.bind_eq_some_iff.1 h;cases h;unfold l6 at h1;obtain⟨t,h2,h1⟩:=Option.bind_eq_some_iff.1 h1;obtain⟨i,h3,h1⟩:=Option.bind_eq_some_iff.1 h1;cases h1;exact hk.symm
  split at h
  ·rename_i hk;obtain⟨x,h1,h⟩:=Option.bind_eq_some_iff.1 h;cases h;unfold l5 at h1;obtain⟨t,h2,h1⟩:=Option.bind_eq_some_iff.1 h1;obtain⟨i,h3,h1⟩:=Option.bind_eq_some_iff.1 h1;cases h1;exact hk.symm
  obtain⟨i,h1,h⟩:=Option.bind_eq_some_iff.1 h;obtain⟨x,h2,h⟩:=Option.bind_eq_some_iff.1 h;cases h;rfl
 cases h;rfl
theorem BK.mono{B B':Nat}{W:World}{y:Pk}{h:H3}(k:BK B' W y h)(hb:B<=B'):BK B W y h:=
 ⟨fun M hM=>k.lw M fun b hb'=>Nat.lt_of_lt_of_le (hM b hb') hb,fun M hM=>k.lc M fun b hb'=>Nat.lt_of_lt_of_le (hM b hb') hb,fun M hM=>k.lf M fun b hb'=>Nat.lt_of_lt_of_le (hM b hb') hb⟩
theorem BK.wrote{B:Nat}{W W':World}{y:Pk}{h:H3}(k:BK B W y h){M:List Nat}(hw:ak M W W')(hM:∀b∈M,b<B):BK B W' y h:=by have g:∀(M2:List Nat),(∀b∈M2,b<B)->∀b∈M2++M,b<B:=fun M2 h2 b hb=>(List.mem_append.1 hb).elim (h2 b) (hM b);exact⟨fun M2 h2=>(k.lw _ (g M2 h2)).step hw (fun b hb=>.inl (List.mem_append_right _ hb)) (fun b hb=>.inl (List.mem_append_left _ hb)),fun M2 h2=>(k.lc _ (g M2 h2)).step hw (fun b hb=>.inl (List.mem_append_right _ hb)) (fun b hb=>.inl (List.mem_append_left _ hb)),fun M2 h2=>(k.lf _ (g M2 h2)).step hw (fun b hb=>.inl (List.mem_append_right _ hb)) (fun b hb=>.inl (List.mem_append_left _ hb))⟩
theorem BK.ag{B:Nat}{W W':World}{y:Pk}{h:H3}(k:BK B W y h)(hb:Below W.heap.size W W'):BK B W' y h:=k.wrote (M:=[]) (ak.aK hb) (by simp)
theorem BK.OQ{B:Nat}{W:World}{y:Pk}{h:H3}(k:BK B W y h):y.In W h:=⟨(k.lw [] (by simp)).eM,(k.lc [] (by simp)).eM,(k.lf [] (by simp)).eM⟩
structure YV (l:List UInt8)(w:World)(e:Ending)(w':World):Prop where
 ag:Below w.heap.size w w'
 out:(bg l=none/\e=.returned (.tuple #[.agg bF,.bool false]))\/∃(y:Pk)(h:H3),bg l=some y/\e=.returned (.tuple #[.agg (y.cells h).toArray,.bool true])/\BK w.heap.size w' y h
structure M6 (w:World)(o:Option Pk)(s:Value)(W:World):Prop where
 out:∃cs:Array Value,rk w cs W/\((o=none/\s=.bool false/\cs.size=24/\∀v∈cs.toList,v.oneCell'=true)\/∃(y:Pk)(h:H3),o=some y/\s=.bool true/\cs=(({y with kind:=0}:Pk).cells h).toArray/\BK (w.heap.size+2) W y h)
theorem BQ:∀l:List UInt8,l.length<2->bg l=none
 | [],_=>rfl
 | [x],_=>BJ x [] (by decide)
 | _::_::_,h=>by simp at h;omega
theorem Jh(a:Option Addr)(n c:Nat)(l:List UInt8)(w:World)(hr:ax w a n c (bs l))(hn:n<=65536):Calls prog 76 #[.slice a n c] w (YV l w):=by
 have hl:l.length=n:=by have:=hr.len;rw[cV]at this;exact this
 have hZ:ar (w.alloc (.cells bF 52)) w.heap.size bF 52:=ar.new _ _ _;have cH:=af (Pk.one (aN 0) bo);have b0:Hid (Below w.heap.size w (w.alloc (.cells bF 52))):=af (ai.alloc ah _);by_cases h2:n<2
 ·have d:decide ((n:Int)<2)=true:=decide_eq_true (by omega);have hno:Hid (bg l=none):=af (BQ l (by omega));unfold bF at hZ;go_enter func76,ntmps76;have gR:=hZ;have gL:=b0.out;exact ek
 obtain⟨x,l2,rfl⟩:∃x l2,l=x::l2:=by
  match l,hl with
  | x::l2,_=>exact⟨x,l2,rfl⟩
  | [],h=>simp at h;omega
 have hl2:l2.length+1=n:=by simpa using hl
 have d:decide ((n:Int)<2)=false:=decide_eq_false (by omega);obtain⟨bb,off,ha,hc0⟩:=hr.byte (show 0<n by omega);subst ha;replace hc0:w.cell? ⟨bb,off,none⟩=some (.int .u8 ((x.toNat:Nat):Int)):=by simpa using hc0
 have hle:=hr.le;have hmx:=hr.max;have HR:=af hr;obtain⟨xz,ki⟩:=ae (((x.toNat:Nat):Int):Int);have BC:Hid (∀W,Below w.heap.size w W->W.cell? ⟨bb,off,none⟩=some (.int .u8 xz)):=af fun W hb=>by obtain⟨b2,o2,e2,h9⟩:=(HR.ag hb).byte (show 0<n by omega);cases e2;rw[<-ki];simpa using h9
 have sO:=fun W=>ck Tryz.fP Tryz.xh (some ⟨bb,off,none⟩) n c (1:Int) 1 rfl (by omega) W;rw[show n-1=l2.length by omega]at sO;have CR:=JU (eJ (some ⟨bb,off,none⟩) c 1) l2.length (c-1) l2 (w.alloc (.cells bF 52)) (by have h9:=(hr.ag b0.out).from (i:=1) (by omega);rw[dV,show n-1=l2.length by omega]at h9;exact h9)
 have hRF:=zI l2;have Ji:=af (Je x l2);have M7:=af (BJ x l2);obtain⟨z1,hz1⟩:=ae ((bS l2).1);obtain⟨z2,hz2⟩:=ae ((bS l2).2.1);obtain⟨z3,hz3⟩:=ae ((bS l2).2.2);rw[hz1,hz2,hz3]at CR hRF M7;rw[hz2]at Ji;obtain⟨f1,f2,f3,f4,f5,f6,f7⟩:=hRF;have CR:=af CR;clear hz1 hz2 hz3 hr hc0 hl;have hZ:=af hZ;go_enter func76,ntmps76;go_wp2_with fail
 refine CR.mono ?_;rintro e w1 ⟨rfl,bL⟩;have B1:Hid (Below w.heap.size w w1):=af (by rw[<-bL];exact b0.out);have YW:ar w1 w.heap.size bF 52:=by rw[<-bL];exact hZ.out
 have hs1:w1.heap.size=w.heap.size+1:=by rw[<-bL];simp
 clear bL CR hZ b0 sO;by_cases c3:¬z3=0
 ·have d3:(z3 !=0)=true:=by simpa using c3
  have hno:Hid (bg (x::l2)=none):=af (M7 fun h=>c3 h.1);have gR:=YW;have gL:=B1.out;exact ek
 obtain rfl:z3=0:=by omega
 by_cases c2:z2=0
 ·subst c2;have hno:Hid (bg (x::l2)=none):=af (M7 fun h=>h.2.1 rfl);have gR:=YW;have gL:=B1.out;exact ek
 have d2:(z2==0)=false:=by simpa using c2
 by_cases c1:¬((n:Int)-1-z2=z1)
 ·have d1:((n:Int)-1-z2 !=z1)=true:=by simpa using c1
  have hno:Hid (bg (x::l2)=none):=af (M7 fun h=>c1 (by rw[<-h.2.2];omega));have gR:=YW;have gL:=B1.out;exact ek
 have d1:((n:Int)-1-z2 !=z1)=false:=by simpa using c1
 obtain⟨sz,hsz⟩:∃k:Nat,z2=k:=⟨z2.toNat,by omega⟩;obtain⟨l3,ug⟩:=ae (l2.drop z2.toNat);have aiC:l3.length+sz+1=n:=by rw[<-ug,List.length_drop];omega
 obtain⟨kz,Mr⟩:=ae (xz.tdiv 16:Int);obtain⟨fz,hfz⟩:=ae (xz.tmod 16:Int);obtain⟨fn,hfn⟩:=ae (x.toNat%16:Nat);have ZM:=x.toNat_lt;have hx0:0<=xz:=by omega
 have hx1:xz<256:=by omega
 have oH:kz=((x.toNat / 16:Nat):Int):=by rw[<-Mr,<-ki,Int.tdiv_eq_ediv_of_nonneg (by omega)];omega
 have Gl:fz=(fn:Int):=by rw[<-hfz,<-ki,<-hfn,Int.tmod_eq_emod_of_nonneg (by omega)];omega
 have hk0:0<=kz:=by omega
 have gW:kz<=15:=by omega
 have zf:0<=fz:=by omega
 have Jw:fz<16:=by omega
 obtain⟨O,hO⟩:=ae (nh kz fn l3);replace Ji:Hid (bg (x::l2)=O.bind fun p=>if aZ p/\eG p=x::l2 then some p else none):=af (by rw[<-hO,Ji.out,<-oH,hfn,ug]);have R3:Hid (∀W,Below w.heap.size w W->ax W (eJ (some ⟨bb,off,none⟩) c (1+sz)) l3.length (c-(1+sz)) (bs l3)):=af fun W hb=>by have h9:=(HR.ag hb).from (i:=1+sz) (by omega);rw[dV,show n-(1+sz)=l3.length by omega,Nat.add_comm 1 sz,List.drop_succ_cons,show sz=z2.toNat by omega,ug]at h9;rw[show 1+sz=z2.toNat+1 by omega];exact h9
 have EJ:=fun W=>ck Tryz.fP Tryz.xh (some ⟨bb,off,none⟩) n c (1+z2) (1+sz) (by omega) (by omega) W;rw[show n-(1+sz)=l3.length by omega]at EJ;replace ug:=af ug;replace hsz:=af hsz;replace oH:=af oH;replace Gl:=af Gl;replace hfn:=af hfn;replace ki:=af ki;have hO:=af hO;clear M7 c3 hmx ZM;go_upto_region 6 with fail;try simp only[PT]
 refine aH [(1000,fun w'=>w'.cell? ⟨bb,off,none⟩=some (.int .u8 xz))] (by kernel_rfl) ⟨BC _ B1.drew,trivial⟩ fun KQ aL=>?_;try simp only[PT]
 refine tQ [0,1] ?_;refine aG 2 rfl (by kernel_rfl) (by kernel_rfl) rfl rfl 0 rfl (by kernel_rfl) (.int .u8 xz) (fun w' hf=>by(have k0:=hf;go_simp<;>with_reducible rfl)) ?_;simp only[PT];refine tQ [3,4,5,6] ?_;refine aG 7 rfl (by kernel_rfl) (by kernel_rfl) rfl rfl 0 rfl (by kernel_rfl) (.int .u8 xz) (fun w' hf=>by(have k0:=hf;go_simp<;>with_reducible rfl)) ?_;simp only[PT];refine tQ [8,9,10,11,12] ?_;refine fX 13 rfl (by kernel_rfl) (by kernel_rfl) rfl Tryz.fP _ EJ ?_;try simp only[PT]
 refine tQ [14,15,16] ?_;refine dQ (aL.out _ _ ?_);clear aL KQ;obtain⟨W2,hW2⟩:=ae w1.drew;have B2:Below w.heap.size w W2:=by rw[<-hW2];exact B1.drew
 have hZ2:ar W2 w.heap.size bF 52:=by rw[<-hW2];exact YW.drew
 have hs2:W2.heap.size=w.heap.size+1:=by rw[<-hW2];simpa using hs1
 rw[hW2];have BN:ar (W2.alloc (.cells bF 52)) (w.heap.size+1) bF 52:=by rw[<-hs2];exact ar.new _ _ _
 obtain⟨a3,Ri⟩:=ae (eJ (some ⟨bb,off,none⟩) c (1+sz));obtain⟨c3,hc3⟩:=ae (c-(1+sz));rw[Ri,hc3]at R3 ⊢;clear hW2 YW hs1 EJ Ri hc3 BC hle d1 d2 c1 c2 Mr hfz hx0 hx1;unfold bF at BN;go_upto_block 0 with(refine wS 52 24 rfl (w.heap.size+1) _ ((aN 0).cells bo).toArray rfl rfl BN rfl rfl cH.out ?_;intro w3 hw3 hr3)
 have L3:rk w ((aN 0).cells bo).toArray w3:=⟨(B2.alloc B2.size _).trans (hr3.ag (by simp;omega) (by simp)),(hZ2.alloc _).aw hr3 (by simp),hw3⟩;clear BN hr3 hw3 hZ2 B2 hs2;have PL:l3.length<=65536:=by omega
 try simp only[PT]
 go_cut [11,12,13,14,15,16]from 59 (fun Ts s12 s13 s14 s15 s16 wx=>Hid (M6 w O Ts wx))
 case first=>
  by_cases k1:kz=1
  ·subst k1;obtain rfl:pD l3=O:=by rw[<-hO.out];unfold nh;rw[if_pos rfl]
   have CC:=af (xg a3 l3.length c3 l3 w3 (R3 _ L3.low) (by omega));go_wp2_with fail
   have gC:=CC.out;exact nK
  have e1:(kz==1)=false:=by simpa using k1
  by_cases k2:kz=2
  ·subst k2;by_cases QR:l3.length=2
   ·have Vx:((l3.length:Int)==2)=true:=by rw[QR];rfl
    obtain⟨y0,y1,rfl⟩:∃y0 y1,l3=[y0,y1]:=by
     match l3,QR with
     | [y0,y1],_=>exact⟨y0,y1,rfl⟩
    obtain⟨b3,o3,Ri,hb3⟩:=(R3 _ L3.low).byte (show 0<[y0,y1].length by simp);subst Ri;obtain⟨p0,hp0⟩:=ae (((y0.toNat:Nat):Int):Int);obtain⟨p1,zw⟩:=ae (((y1.toNat:Nat):Int):Int);obtain⟨pb,kF⟩:=ae (p0==1);have BR:∀W,Below w.heap.size w W->W.cell? ⟨b3,o3,none⟩=some (.int .u8 p0)/\W.cell? ⟨b3,o3+1,none⟩=some (.int .u8 p1):=fun W hb=>by obtain⟨b4,o4,e4,h9⟩:=(R3 _ hb).byte (show 0<[y0,y1].length by simp);cases e4;obtain⟨b5,o5,e5,h10⟩:=(R3 _ hb).byte (show 1<[y0,y1].length by simp);cases e5;exact⟨by rw[<-hp0];simpa using h9,by rw[<-zw];simpa using h10⟩
    have aiD:0<=p1:=by omega
    have Ja:p1<256:=by have:=y1.toNat_lt;omega
    obtain rfl:some ({aN 2 with present:=pb,code:=p1}:Pk)=O:=by rw[<-hO.out];unfold nh;rw[if_neg (by decide),if_pos ⟨rfl,rfl⟩,<-kF,<-hp0,<-zw];rw[show(((y0.toNat:Nat):Int)==1)=decide (y0.toNat=1)from by rw[Bool.eq_iff_iff];simp;omega];rfl
    have BR:=af BR;replace hp0:=af hp0;replace zw:=af zw;have hlen:([y0,y1]:List UInt8).length=2:=rfl;rw[hlen]at*
    go_upto_region 11 with fail
    try simp only[PT]
    have LD:=L3.step ai.drew;refine aH [(1000,fun w'=>w'.cell? ⟨b3,o3,none⟩=some (.int .u8 p0)/\w'.cell? ⟨b3,o3+1,none⟩=some (.int .u8 p1))] (by kernel_rfl) ⟨BR _ LD.low,trivial⟩ fun KQ aL=>?_;try simp only[PT]
    refine tQ [0,1] ?_;refine aG 2 rfl (by kernel_rfl) (by kernel_rfl) rfl rfl 0 rfl (by kernel_rfl) (.int .u8 p0) (fun w' hf=>by(have k0:=hf.1;go_simp<;>with_reducible rfl)) ?_;simp only[PT];refine tQ [3,4,5] ?_;refine aG 6 rfl (by kernel_rfl) (by kernel_rfl) rfl rfl 0 rfl (by kernel_rfl) (.int .u8 p1) (fun w' hf=>by(have k0:=hf.2;go_simp<;>with_reducible rfl)) ?_;simp only[PT];refine tQ [7] ?_;refine fM 8 rfl (by kernel_rfl) (.agg (({aN 0 with present:=pb,code:=p1}:Pk).cells bo).toArray) (by kernel_rfl) (fun w' _=>by rw[<-kF];kernel_rfl) ?_;try simp only[PT]
    refine sQ 9 fun K hK=>?_;simp only[GO];refine wW 52 24 rfl (w.heap.size+1) _ (({aN 0 with present:=pb,code:=p1}:Pk).cells bo).toArray rfl rfl LD.pk rfl rfl (Pk.one _ _) fun w5 eo fh=>?_;have L5:=LD.put eo fh;refine hK _ _ ⟨⟨fun _=>BR.out _ L5.low,trivial⟩,?_⟩;clear hK K;try simp only[PT]
    refine dQ (aL.out _ _ ?_);clear aL KQ;have S5:Hid (M6 w (some ({aN 2 with present:=pb,code:=p1}:Pk)) (.bool true) w5):=af ⟨_,L5,.inr ⟨_,bo,rfl,rfl,rfl,fun M _=>eN.nil _ M,fun M _=>eN.nil _ M,fun M _=>eN.nil _ M⟩⟩;go_wp2;go_meet
    case rel=>exact S5
   have Vx:((l3.length:Int)==2)=false:=by simpa using(show(l3.length:Int)≠2 by omega)
   obtain rfl:some (aN 2)=O:=by rw[<-hO.out];unfold nh;rw[if_neg (by decide),if_neg (fun h=>QR h.2),if_neg (by decide),if_neg (by decide)]
   have S5:Hid (M6 w (some (aN 2)) (.bool true) w3):=af ⟨_,L3,.inr ⟨_,bo,rfl,rfl,rfl,fun M _=>eN.nil _ M,fun M _=>eN.nil _ M,fun M _=>eN.nil _ M⟩⟩;go_wp2_with fail
   go_meet
   case rel=>exact S5
  have e2:(kz==2)=false:=by simpa using k2
  by_cases k3:kz=3
  ·subst k3;have h3:Hid (O=(bC l3).bind fun t=>(dm (decide (0<fn / 2%4)) 0 (aX 2) t.2).bind fun i=>some ({aN 3 with dup:=has fn 8,retain:=has fn 1,qos:=((fn / 2%4:Nat):Int),topic:=t.1,id:=(i.1:Int),body:=i.2}:Pk)):=af (by
    rw[<-hO.out];unfold nh;rw[if_neg (by decide),if_neg (fun h=>absurd h.1 (by decide)),if_pos rfl];unfold jm;cases bC l3 with
    | none=>rfl
    |some t=>simp only[Option.bind_some];cases dm (decide (0<fn / 2%4)) 0 (aX 2) t.2<;>rfl)
   obtain⟨q2,RH⟩:=ae (fz.tdiv 2:Int);obtain⟨qq,LV⟩:=ae (q2.tmod 4:Int);obtain⟨q8,hq8⟩:=ae (fz.tdiv 8:Int);obtain⟨du,PA⟩:=ae (q8==1);obtain⟨m2,kg⟩:=ae (fz.tmod 2:Int);obtain⟨rt,hrt⟩:=ae (m2==1);have Re:=Gl.out;have b2:q2=((fn / 2:Nat):Int):=by rw[<-RH,Re,Int.tdiv_eq_ediv_of_nonneg (by omega)];omega
   have bq:qq=((fn / 2%4:Nat):Int):=by rw[<-LV,b2,Int.tmod_eq_emod_of_nonneg (by omega)];omega
   have b8:q8=((fn / 8:Nat):Int):=by rw[<-hq8,Re,Int.tdiv_eq_ediv_of_nonneg (by omega)];omega
   have bm:m2=((fn%2:Nat):Int):=by rw[<-kg,Re,Int.tmod_eq_emod_of_nonneg (by omega)];omega
   have hb1:has fn 8=du:=by rw[<-PA,b8,Bool.eq_iff_iff];unfold has;simp;omega
   have hb2:has fn 1=rt:=by rw[<-hrt,bm,Bool.eq_iff_iff];unfold has;simp;omega
   have hb3:decide (0<fn / 2%4)=decide (0<qq):=decide_eq_decide.2 (by omega);replace h3:Hid (O=(bC l3).bind fun t=>(dm (decide (0<qq)) 0 (aX 2) t.2).bind fun i=>some ({aN 3 with dup:=du,retain:=rt,qos:=qq,topic:=t.1,id:=(i.1:Int),body:=i.2}:Pk)):=af (by rw[h3,hb1,hb2,hb3,<-bq]);have q20:0<=q2:=by omega
   have q21:q2<256:=by omega
   have q80:0<=q8:=by omega
   have q81:q8<256:=by omega
   have qq0:0<=qq:=by omega
   have qq1:qq<256:=by omega
   have m20:0<=m2:=by omega
   have m21:m2<256:=by omega
   clear hb1 hb2 hb3 b2 bq b8 bm Re;have CT:=af (qM a3 l3.length c3 l3 w3 (R3 _ L3.low) (by omega));go_wp2_with fail
   refine CT.mono ?_;rintro e w4 ⟨hb4,⟨hno,rfl⟩ | ⟨s,r2,a2,c2,cq,rfl,hr2⟩⟩
   ·have L4:=L3.step hb4;obtain rfl:O=none:=by rw[h3,hno];rfl
    clear hb4 hno;go_upto_region 20 with(refine wS 52 24 rfl (w.heap.size+1) _ (({aN 0 with qos:=qq,dup:=du,retain:=rt}:Pk).cells bo).toArray rfl rfl L4.pk rfl rfl (Pk.one _ _) ?_;intro w5 eo fh);have L5:=L4.put eo fh;have hcv:=dX (show ax w5 none 0 0 (bs [])from ax.empty w5);clear eo fh L4;go_wp2_with (refine aq rfl 9 52 _ _ rfl (fun w=>by kernel_rfl) (w.heap.size+1) 5 _ _ rfl rfl L5.pk (by exact(by decide:5<24)) rfl rfl ?_;intro w6 kh mL);have S6:Hid (M6 w none (.bool false) w6):=af ⟨_,L5.put kh mL,.inl ⟨rfl,rfl,rfl,Pk.one ({aN 0 with qos:=qq,dup:=du,retain:=rt}:Pk) bo⟩⟩;clear kh mL L5;go_meet
    case rel=>exact S6
   have L4:=L3.step hb4;have mC:Hid (∀W,Below w.heap.size w W->ax W a2 r2.length c2 (bs r2)):=af fun W hb=>hr2 W (R3 W hb);have Sr:Hid (O=(dm (decide (0<qq)) 0 (aX 2) r2).bind fun i=>some ({aN 3 with dup:=du,retain:=rt,qos:=qq,topic:=s,id:=(i.1:Int),body:=i.2}:Pk)):=af (by rw[h3,cq];rfl);have Uz:r2.length<=65536:=by have:=iM cq;omega
   clear hb4 cq hr2 h3;by_cases oF:0<qq
   ·have d0:decide (0<qq)=true:=decide_eq_true oF;rw[d0]at Sr;go_upto_region 16 with(refine wS 52 24 rfl (w.heap.size+1) _ (({aN 0 with qos:=qq,dup:=du,retain:=rt,topic:=s}:Pk).cells bo).toArray rfl rfl L4.pk rfl rfl (Pk.one _ _) ?_;intro w5 eo fh;have kq5:w5.cell? ⟨w.heap.size+1,3,none⟩=some (.int .i64 qq):=eo.cell 3)
    have L5:=L4.put eo fh;have CRd:=af (vA a2 r2.length c2 r2 w5 (mC _ L5.low) (by omega));clear eo fh L4 kq5;go_wp2_with fail;refine CRd.mono ?_;rintro e w6 ⟨⟨hlt,rfl⟩ | ⟨jw,rfl⟩,rfl⟩
    ·obtain rfl:O=none:=by rw[Sr];unfold dm aX;rw[if_pos rfl,if_pos hlt];rfl
     clear hlt;go_upto_region 20 with(refine aq rfl 2 52 _ _ rfl (fun w=>by kernel_rfl) (w.heap.size+1) 6 _ _ rfl rfl L5.pk (by exact(by decide:6<24)) rfl rfl ?_;intro w6 kh mL);have L6:=L5.put kh mL;have hcv:=dX (mC _ L6.low);clear kh mL L5;go_wp2_with (refine aq rfl 9 52 _ _ rfl (fun w=>by kernel_rfl) (w.heap.size+1) 5 _ _ rfl rfl L6.pk (by exact(by decide:5<24)) rfl rfl ?_;intro w7 gZ gD);have S7:Hid (M6 w none (.bool false) w7):=af ⟨_,L6.put gZ gD,.inl ⟨rfl,rfl,rfl,Pk.one ({aN 0 with qos:=qq,dup:=du,retain:=rt,topic:=s,id:=0,body:=r2}:Pk) bo⟩⟩;clear gZ gD L6;go_meet
     case rel=>exact S7
    have ny:jO (r2.take 2)<65536:=by
     have h9:=lY (r2.take 2)
     rwa [List.length_take_of_le (by omega)]at h9
    obtain⟨xd,vL⟩:=ae (jO (r2.take 2));obtain⟨xe,pO⟩:=ae ((xd:Int):Int);rw[vL]at ny ⊢;obtain rfl:O=some ({aN 3 with dup:=du,retain:=rt,qos:=qq,topic:=s,id:=xe,body:=r2.drop 2}:Pk):=by rw[Sr];unfold dm aX;rw[if_pos rfl,if_neg (by omega),vL,<-pO];rfl
    have i0:0<=xe:=by omega
    have i1:xe<65536:=by omega
    rw[pO];have adB:=fun W=>ck Tryz.fP Tryz.xh a2 r2.length c2 (2:Int) 2 rfl (by omega) W;clear vL pO ny;go_upto_region 20 with(refine aq rfl 2 52 _ _ rfl (fun w=>by kernel_rfl) (w.heap.size+1) 6 _ (.int .i64 xe) rfl rfl L5.pk (by exact(by decide:6<24)) rfl rfl ?_;intro w6 kh mL);have L6:=L5.put kh mL;have hcv:=dX (by have h9:=(mC _ L6.low).from (i:=2) (by omega);rw[dV]at h9;exact h9);clear kh mL L5;go_wp2_with (refine aq rfl 9 52 _ _ rfl (fun w=>by kernel_rfl) (w.heap.size+1) 5 _ _ rfl rfl L6.pk (by exact(by decide:5<24)) rfl rfl ?_;intro w7 gZ gD);have S7:Hid (M6 w (some ({aN 3 with dup:=du,retain:=rt,qos:=qq,topic:=s,id:=xe,body:=r2.drop 2}:Pk)) (.bool true) w7):=af ⟨_,L6.put gZ gD,.inr ⟨_,bo,rfl,rfl,rfl,fun M _=>eN.nil _ M,fun M _=>eN.nil _ M,fun M _=>eN.nil _ M⟩⟩;clear gZ gD L6;go_meet
    case rel=>exact S7
   have d0:decide (0<qq)=false:=decide_eq_false oF;rw[d0]at Sr;obtain rfl:O=some ({aN 3 with dup:=du,retain:=rt,qos:=qq,topic:=s,id:=0,body:=r2}:Pk):=Sr.out;go_upto_region 20 with(refine wS 52 24 rfl (w.heap.size+1) _ (({aN 0 with qos:=qq,dup:=du,retain:=rt,topic:=s}:Pk).cells bo).toArray rfl rfl L4.pk rfl rfl (Pk.one _ _) ?_;intro w5 eo fh;have kq5:w5.cell? ⟨w.heap.size+1,3,none⟩=some (.int .i64 qq):=eo.cell 3)
   have L5:=L4.put eo fh;have hcv:=dX (mC _ L5.low);clear eo fh L4 kq5;go_wp2_with (refine aq rfl 9 52 _ _ rfl (fun w=>by kernel_rfl) (w.heap.size+1) 5 _ _ rfl rfl L5.pk (by exact(by decide:5<24)) rfl rfl ?_;intro w6 kh mL);have S6:Hid (M6 w (some ({aN 3 with dup:=du,retain:=rt,qos:=qq,topic:=s,id:=0,body:=r2}:Pk)) (.bool true) w6):=af ⟨_,L5.put kh mL,.inr ⟨_,bo,rfl,rfl,rfl,fun M _=>eN.nil _ M,fun M _=>eN.nil _ M,fun M _=>eN.nil _ M⟩⟩;clear kh mL L5;go_meet
   case rel=>exact S6
  have e3:(kz==3)=false:=by simpa using k3
  by_cases k4:4<=kz
  ·have d4:decide (4<=kz)=true:=decide_eq_true k4;by_cases Gd:kz<=11
   ·have d11:decide (kz<=11)=true:=decide_eq_true Gd;have hL:kN kz l3=O:=by rw[<-hO.out];unfold nh;rw[if_neg k1,if_neg (fun h=>k2 h.1),if_neg k3,if_pos ⟨k4,Gd⟩]
    have CC:Hid (Calls prog 103 #[.int .i64 kz,.slice a3 l3.length c3] w3 (MV O w3)):=af (by
     rw[<-hL];by_cases k9:kz=9
     ·subst k9;exact BL a3 l3.length c3 l3 w3 (R3 _ L3.low) PL
     by_cases k8:kz=8
     ·subst k8;exact BP a3 l3.length c3 l3 w3 (R3 _ L3.low) PL
     exact BO kz ⟨k8,k9⟩ a3 l3.length c3 l3 w3 (R3 _ L3.low) PL)
    clear k1 k2 k3 k4 Gd hL;go_wp2_with fail;have gC:=CC.out;exact nK
   have d11:decide (kz<=11)=false:=decide_eq_false Gd;obtain rfl:some (aN kz)=O:=by rw[<-hO.out];unfold nh;rw[if_neg k1,if_neg (fun h=>k2 h.1),if_neg k3,if_neg (fun h=>Gd h.2)]
   have S5:Hid (M6 w (some (aN kz)) (.bool true) w3):=af ⟨_,L3,.inr ⟨_,bo,rfl,rfl,rfl,fun M _=>eN.nil _ M,fun M _=>eN.nil _ M,fun M _=>eN.nil _ M⟩⟩;go_wp2_with fail
   go_meet
   case rel=>exact S5
  have d4:decide (4<=kz)=false:=decide_eq_false k4;obtain rfl:some (aN kz)=O:=by rw[<-hO.out];unfold nh;rw[if_neg k1,if_neg (fun h=>k2 h.1),if_neg k3,if_neg (fun h=>k4 h.1)]
  have S5:Hid (M6 w (some (aN kz)) (.bool true) w3):=af ⟨_,L3,.inr ⟨_,bo,rfl,rfl,rfl,fun M _=>eN.nil _ M,fun M _=>eN.nil _ M,fun M _=>eN.nil _ M⟩⟩;go_wp2_with fail
  go_meet
  case rel=>exact S5
 case rest=>
  obtain⟨cs,LC,hout⟩:=hcut.out.out;obtain⟨w4,hw4⟩:=ae wc;rw[hw4]at LC hout ⊢;clear hw4 hcut L3 w3;rcases hout with⟨hnone,rfl,hcs,aV⟩ | ⟨y,h,cq,rfl,hcs,cd⟩
  ·have hno:Hid (bg (x::l2)=none):=af (by rw[Ji.out,hnone];rfl);replace hnone:=af hnone;replace hcs:=af hcs;clear aV;go_upto_region 24 with(refine aq rfl 45 52 _ _ rfl (fun w=>by kernel_rfl) (w.heap.size+1) 0 _ (.int .i64 kz) rfl rfl LC.pk (by rw[hcs.out];decide) rfl rfl ?_;intro w6 Qp kh);try simp only[PT]
   have L6:=(LC.put Qp kh).step ai.drew;obtain⟨W7,Lh⟩:=ae w6.drew;rw[Lh]at L6;clear Qp kh LC;refine aH [] (by kernel_rfl) trivial fun KQ aL=>?_;try simp only[PT]
   rw[Lh];clear Lh;refine tQ [0,1,2] ?_;refine uQ 3 ?_;refine uQ 4 ?_;refine uQ 5 ?_;refine tQ [6,7] ?_;refine uQ 8 ?_;refine uQ 9 ?_;refine uQ 10 ?_;refine uQ 11 ?_;refine uQ 12 ?_;refine uQ 13 ?_;refine tQ [14] ?_;refine dQ (aL.out _ _ ?_);clear aL KQ;have gR:=L6.res;have gL:=L6.low;exact ek
  have Qz:y.kind=kz:=Jg (hO.trans cq);have ML:Hid (bg (x::l2)=if aZ y/\eG y=x::l2 then some y else none):=af (by rw[Ji.out,cq];rfl);have hsm:=EF PL (hO.trans cq);obtain⟨yc,eE⟩:=ae ((y.cells h).toArray);subst Qz hcs;clear cq Ji hO;go_upto_region 24 with(refine aq rfl 45 52 _ _ rfl (fun w=>by kernel_rfl) (w.heap.size+1) 0 _ (.int .i64 y.kind) rfl rfl LC.pk (by exact(by decide:0<24)) rfl rfl ?_;intro w6 Qp kh);have L6:rk w (y.cells h).toArray w6:=LC.put Qp kh;have in6:=cd.wrote kh (by simp);rw[eE]at L6;have Vz:Hid ((prog.info? 52).map (·.size)=some yc.size):=af (by rw[<-eE];exact(by kernel_rfl:(prog.info? 52).map (·.size)=some 24));have jE:Hid (yc.size=24):=af (by rw[<-eE];rfl);have aV:Hid (∀v∈yc.toList,v.oneCell'=true):=af (by rw[<-eE];exact Pk.one _ _);have LD:=L6.step ai.drew;have inD:=in6.ag ai.drew;have hsm:=af hsm;obtain⟨l0,hl0⟩:=ae (x::l2);rw[hl0]at HR;clear Qp kh LC L6 in6 cd;try simp only[PT]
  refine aH [(1000,fun w'=>ar w' (w.heap.size+1) yc 52),(1000,fun w'=>ax w' (some ⟨bb,off,none⟩) n c (bs l0))] (by kernel_rfl) ⟨LD.pk,HR.ag LD.low,trivial⟩ fun KQ aL=>?_;try simp only[PT]
  obtain⟨WD,di⟩:=ae w6.drew;rw[di]at LD inD ⊢;clear di;have YX:=xP y h WD inD.OQ hsm.out;rw[eE]at YX;refine tQ [0,1,2] ?_;refine aG 3 rfl (by kernel_rfl) (by kernel_rfl) rfl rfl 0 rfl (by kernel_rfl) (.agg yc) (fun w' hf=>by(exact aM hf 52 underlying52 rfl Vz.out)) ?_;simp only[PT];refine sQ 4 fun K hK=>?_;simp only[GO];go_simp;refine YX.mono ?_;rintro e w8 ⟨sb,rfl,eD,pU⟩;have L8:=LD.step pU;have in8:=inD.ag pU;refine hK _ _ ⟨⟨fun _=>L8.pk,fun _=>HR.ag L8.low,trivial⟩,?_⟩;clear hK K;try simp only[PT]
  cases sb with
  |false=>have hno:Hid (bg (x::l2)=none):=af (by rw[ML.out,if_neg (fun h9=>by have:=eD.2 h9.1;cases this)]);refine tQ [5,6,7] ?_;refine uQ 8 ?_;refine uQ 9 ?_;refine uQ 10 ?_;refine uQ 11 ?_;refine uQ 12 ?_;refine uQ 13 ?_;refine tQ [14] ?_;refine dQ (aL.out _ _ ?_);clear aL KQ;clear eD YX;have gR:=L8.res;have gL:=L8.low;exact ek
  | true=>
   have hR:=eD.1 rfl;have CW:=PF y h w8 in8.OQ hR;rw[eE]at CW;refine tQ [5,6,7] ?_;refine aG 8 rfl (by kernel_rfl) (by kernel_rfl) rfl rfl 0 rfl (by kernel_rfl) (.agg yc) (fun w' hf=>by(exact aM hf 52 underlying52 rfl Vz.out)) ?_;simp only[PT];refine tQ [11] ?_;refine EY 12 rfl (by kernel_rfl) (by kernel_rfl) rfl rfl 1 rfl (by kernel_rfl) (.string ⟨l0.toArray⟩) (fun w' hf=>by(exact dX hf)) ?_;simp only[PT];refine sQ 9 fun K hK=>?_;simp only[GO];go_simp;refine CW.mono ?_;rintro e w9 ⟨tN,v9,rfl,JC⟩;obtain⟨a9,c9,rfl,dN⟩:=ax.gK JC;obtain⟨rl,uj⟩:=ae (eG y);rw[uj]at dN ⊢;obtain⟨n9,FQ⟩:=ae rl.length;rw[FQ]at dN ⊢;have L9:=L8.step tN;have YY:=in8.ag tN;refine hK _ _ ⟨⟨fun _=>L9.pk,fun _=>HR.ag L9.low,trivial⟩,?_⟩;clear hK K;try simp only[PT]
   refine fS [(1000,fun w'=>ar w' (w.heap.size+1) yc 52),(1000,fun w'=>ax w' (some ⟨bb,off,none⟩) n c (bs l0)),(1000,fun w'=>ax w' a9 n9 c9 (bs rl))] (by simp) ⟨fun _=>L9.pk,fun _=>HR.ag L9.low,fun _=>dN,trivial⟩ ?_;refine EY 10 rfl (by kernel_rfl) (by kernel_rfl) rfl rfl 2 rfl (by kernel_rfl) (.string ⟨rl.toArray⟩) (fun w' hf=>by(exact dX hf)) ?_;simp only[PT];by_cases hq:rl=l0
   ·subst hq;refine fM 13 rfl (by kernel_rfl) (.bool false) (by kernel_rfl) (fun w' _=>by go_simp<;>with_reducible rfl) ?_;try simp only[PT]
    refine tQ [14] ?_;refine dQ (aL.out _ _ ?_);clear aL KQ;have KZ:=L9;clear CW YX eD tN JC dN pU;go_wp2_with (first
     | (refine wL 52 rfl rfl KZ.pk underlying52 ?_ rfl rfl Vz.out)
     | (refine wS 52 24 rfl w.heap.size _ yc rfl rfl KZ.res jE.out rfl aV.out ?_;intro FD jq ik))
    refine bodyPost_ret (aS results76 rfl (aj jq 52 underlying52 rfl Vz.out) rfl) rfl ?_;exact⟨KZ.low.trans (ik.ag KZ.low.size (by simp)),.inr ⟨y,h,by rw[ML.out,if_pos ⟨hR,uj.trans hl0.symm⟩],by rw[eE];rfl,(YY.wrote ik (by simp)).mono (by omega)⟩⟩
   have hno:Hid (bg (x::l2)=none):=af (by rw[ML.out,if_neg (fun h9=>hq (uj.symm.trans (h9.2.trans hl0)))]);obtain⟨u,hu⟩:=ae ((⟨rl.toArray⟩:ByteArray):ByteArray);obtain⟨v,hv⟩:=ae ((⟨l0.toArray⟩:ByteArray):ByteArray);have AX:(u.toList==v.toList)=false:=by rw[<-hu,<-hv];simpa using hq
   rw[hu,hv];refine fM 13 rfl (by kernel_rfl) (.bool true) (by kernel_rfl) (fun w' _=>by go_simp<;>with_reducible rfl) ?_;try simp only[PT]
   refine tQ [14] ?_;refine dQ (aL.out _ _ ?_);clear aL KQ;clear CW YX eD tN JC dN pU;have gR:=L9.res;have gL:=L9.low;exact ek
end
section
theorem j5{P:Prop}(h:P:=by
 go_wp2_with (first
  | (refine wL 55 rfl rfl TP.one underlying55 ?_ rfl rfl jZ.out)
  | (refine wS 55 30 rfl (w.heap.size+1) _ zc rfl rfl TP.two dR.out rfl aV.out ?_;intro w9 cC dN))
 refine bodyPost_ret (ft results29 rfl (aj cC 55 underlying55 rfl jZ.out) rfl rfl) rfl ?_;exact⟨TP.low.trans (dN.ag TP.low.size (by simp)),.inl ⟨hno.out,_,_,rfl,dR.out,aV.out⟩⟩):P:=h
theorem kV{P:Prop}(h:P:=by
 obtain⟨zc,dA⟩:=ae ac;have dR:Hid (zc.size=30):=af (by rw[<-dA];exact BS.out);have jZ:Hid ((prog.info? 55).map (·.size)=some zc.size):=af (by rw[dR];kernel_rfl);have aV:Hid (∀v∈zc.toList,v.oneCell'=true):=af (by rw[<-dA];exact UJ.out);have TP:=T0;rw[dA]at TP;replace dA:=af dA;clear T0 k0;go_wp2_with (first
  | (refine wL 55 rfl rfl TP.one underlying55 ?_ rfl rfl jZ.out)
  | (refine wS 55 30 rfl (w.heap.size+1) _ zc rfl rfl TP.two dR.out rfl aV.out ?_;intro w9 cC dN))
 refine bodyPost_ret (ft results29 rfl (aj cC 55 underlying55 rfl jZ.out) rfl rfl) rfl ?_;exact⟨TP.low.trans (dN.ag TP.low.size (by simp)),.inl ⟨hno.out,_,_,rfl,dR.out,aV.out⟩⟩):P:=h
attribute [local go_sem] Oper.semAt_some
def zh(B:Nat)(W:World)(x:dE):Prop:=∀M,(∀b∈M,b<B)->vx W x M
theorem zh.mono{B B':Nat}{W:World}{x:dE}(k:zh B' W x)(hb:B<=B'):zh B W x:=fun M hM=>k M fun b hb'=>Nat.lt_of_lt_of_le (hM b hb') hb
theorem zh.wrote{B:Nat}{W W':World}{x:dE}(k:zh B W x){M:List Nat}(hw:ak M W W')(hM:∀b∈M,b<B):zh B W' x:=fun M2 h2=>(k (M2++M) (fun b hb=>(List.mem_append.1 hb).elim (h2 b) (hM b))).step hw (fun b hb=>.inl (List.mem_append_right _ hb)) (fun b hb=>.inl (List.mem_append_left _ hb))
theorem zh.ag{B:Nat}{W W':World}{x:dE}(k:zh B W x)(hb:Below W.heap.size W W'):zh B W' x:=k.wrote (M:=[]) (ak.aK hb) (by simp)
theorem zh.zero(B:Nat)(W:World)(t:Tn)(h:t.pk.wants=[]/\t.pk.codes=[]/\t.pk.filters=[]/\t.bf=[]):zh B W ⟨t,bo,bQ⟩:=fun M _=>vx.zero W t h M
structure YZ (o:Option (Tn×List UInt8))(a:Option Addr)(n c:Nat)(l:List UInt8)(w:World)(e:Ending)(w':World):Prop where
 ag:Below w.heap.size w w'
 out:(o=none/\∃(cs:Array Value)(v:Value),e=.returned (.tuple #[.agg cs,v,.bool false])/\cs.size=30/\∀v∈cs.toList,v.oneCell'=true)\/
  ∃(x:dE)(r:List UInt8)(a2:Option Addr)(c2:Nat),o=some (x.t,r)/\e=.returned (.tuple #[.agg x.cells.toArray,.slice a2 r.length c2,.bool true])/\zh w.heap.size w' x/\∀W,ax W a n c (bs l)->ax W a2 r.length c2 (bs r)
structure BU (w:World)(cs:Array Value)(W:World):Prop where
 low:Below w.heap.size w W
 one:ar W w.heap.size cs 55
 two:ar W (w.heap.size+1) i6 55
theorem BU.size{w:World}{cs:Array Value}{W:World}(h:BU w cs W):w.heap.size+2<=W.heap.size:=by have:=h.two.lt;omega
theorem BU.step{w:World}{cs:Array Value}{W W':World}(h:BU w cs W)(hb:Below W.heap.size W W'):BU w cs W':=⟨h.low.trans (hb.mono h.low.size),h.one.ag hb,h.two.ag hb⟩
theorem BU.put{w:World}{cs cs':Array Value}{W W':World}(h:BU w cs W)(hb:ar W' w.heap.size cs' 55)(hw:ak [w.heap.size] W W'):BU w cs' W':=
 ⟨h.low.trans (hw.ag h.low.size (by simp)),hb,h.two.aw hw (by simp)⟩
theorem BU.grow{w:World}{cs:Array Value}{W W':World}{r:Option Nat}(h:BU w cs W)(hg:W.grownBy W' r)(hr:∀g,r=some g->w.heap.size+2<=g):BU w cs W':=
 ⟨h.low.grown hg h.low.size (fun g e=>by have:=hr g e;omega),h.one.keep (hg.block _ h.one.lt (fun e=>by have:=hr _ e.symm;omega)),h.two.keep (hg.block _ h.two.lt (fun e=>by have:=hr _ e.symm;omega))⟩
theorem Jj{n:Nat}{l r:List UInt8}{xs:List Int}(h:bJ cm n l=some (xs,r)):n<=l.length:=by
 obtain⟨h1,h2⟩:=jQ cm (fun z=>ay 1 z.toNat) (fun l x r h=>l8 h) n l xs r h;have h3:∀ys:List Int,(ys.flatMap fun z=>ay 1 z.toNat).length=ys.length:=fun ys=>by
  induction ys with
  | nil=>rfl
  | cons y ys ih=>rw[List.flatMap_cons,List.length_append,ih,aO,List.length_cons];omega
 rw[h1,List.length_append,h3];omega
theorem lM(x:UInt8)(l:List UInt8):aX 1 (x::l)=some (x.toNat,l):=by unfold aX;rw[if_neg (by simp)];simp[jO]
theorem EK{cur cs:Array Value}{j:Nat}(h1:∀v∈cur.toList,v.oneCell'=true)(h2:∀v∈cs.toList,v.oneCell'=true):∀v∈(kM cur j cs).toList,v.oneCell'=true:=by
 intro v hv;unfold kM at hv;rcases List.mem_append.1 hv with hv | hv
 ·rcases List.mem_append.1 hv with hv | hv
  ·exact h1 v (List.mem_of_mem_take hv)
  exact h2 v hv
 exact h1 v (List.mem_of_mem_drop hv)
theorem BV(k cn:Int)(a:Option Addr)(n c:Nat)(l:List UInt8)(w:World)(hr:ax w a n c (bs l))(hn:n<=65536):
  Calls prog 29 #[.agg ((dS k cn).cells bo bQ).toArray,.slice a n c] w (YZ (fB fR true (dS k cn) l) a n c l w):=by
 have hl:l.length=n:=by have:=hr.len;rw[cV]at this;exact this
 have HR:=af hr;obtain⟨O,hO⟩:=ae (fB fR true (dS k cn) l);rw[hO];obtain⟨W0,hW0⟩:=ae ((w.alloc (.cells ((dS k cn).cells bo bQ).toArray 55)).alloc (.cells i6 55));have T0:BU w ((dS k cn).cells bo bQ).toArray W0:=by rw[<-hW0];exact⟨(ai.alloc ah _).alloc (by simp) _,(ar.new _ _ _).alloc _,ar.jb _ _ _ _ (by simp)⟩
 obtain⟨ac,vO⟩:=ae (((dS k cn).cells bo bQ).toArray);have k0:W0.cell? ⟨w.heap.size,0,none⟩=some (.int .i64 k):=T0.one.cell 0;rw[vO]at hW0 T0;rw[vO];simp only[i6,ig,Tn.cells,aN,dx,bo,bQ]at hW0;have hO:=af hO;replace vO:=af vO;go_enter func29,ntmps29;go_upto_region 2 with fail
 try simp only[PT]
 clear hW0;have BS:Hid (ac.size=30):=af (by rw[<-vO.out];rfl);have UJ:Hid (∀v∈ac.toList,v.oneCell'=true):=af (by rw[<-vO.out];exact Tn.one _ _ _);by_cases k2:k=2
 ·subst k2;have CT:=af (vB a n c l W0 (HR.ag T0.low) (by omega));have h2:Hid (O=(bC l).bind fun s=>(bg s.1).bind fun p=>some ({dS 2 cn with pk:=p},s.2)):=af (by rw[<-hO.out,mg (t:=dS 2 cn) rfl];rfl);go_wp2_with fail
  refine CT.mono ?_;rintro e w1 ⟨hb1,hout⟩;obtain⟨s,v,is,rfl,zl,kO⟩:∃(s:List UInt8)(v:Value)(is:Bool),e=.returned (.tuple #[.string ⟨s.toArray⟩,v,.bool is])/\s.length<=65536/\((is=false/\O=none)\/(is=true/\∃(r:List UInt8)(a2:Option Addr)(c2:Nat),v=.slice a2 r.length c2/\O=((bg s).bind fun p=>some ({dS 2 cn with pk:=p},r))/\∀W,ax W a n c (bs l)->ax W a2 r.length c2 (bs r))):=by
   rcases hout with⟨hno,rfl⟩ | ⟨s,r,a2,c2,cq,rfl,hr2⟩
   ·exact⟨[],_,false,rfl,by simp,.inl ⟨rfl,by rw[h2,hno];rfl⟩⟩
   exact⟨s,_,true,rfl,by have:=(cg cq).2;omega,.inr ⟨rfl,r,a2,c2,rfl,by rw[h2,cq];rfl,hr2⟩⟩
  have T1:=T0.step hb1;obtain⟨cp,w2,hcv,hrow,hb2⟩:=vD s w1 (by omega);have T2:=af (T1.step hb2);have CP:=af (Jh (some ⟨w1.heap.size,0,none⟩) s.length cp s w2 hrow zl);have k0:w1.cell? ⟨w.heap.size,0,none⟩=some (.int .i64 2):=by rw[T1.one.cell,<-vO.out];rfl
  replace kO:=af kO;clear hb1 hout CT h2 hb2 hrow T1 T0;go_wp2_with fail;refine CP.mono ?_;rintro e w3 ⟨hb3,hout⟩;obtain⟨yc,fi,rfl,Cb,aV,hfi⟩:∃(yc:Array Value)(fi:Bool),e=.returned (.tuple #[.agg yc,.bool fi])/\yc.size=24/\(∀v∈yc.toList,v.oneCell'=true)/\((fi=false/\bg s=none)\/(fi=true/\∃(y:Pk)(h:H3),bg s=some y/\yc=(y.cells h).toArray/\BK w2.heap.size w3 y h)):=by
   rcases hout with⟨hno,rfl⟩ | ⟨y,h,cq,rfl,cd⟩
   ·exact⟨_,false,rfl,rfl,Pk.one _ _,.inl ⟨rfl,hno⟩⟩
   exact⟨_,true,rfl,rfl,Pk.one _ _,.inr ⟨rfl,y,h,cq,rfl,cd⟩⟩
  have T3:=af (T2.step hb3);have Vz:Hid ((prog.info? 52).map (·.size)=some yc.size):=af (by rw[Cb];kernel_rfl);have h23:=af (Nat.le_trans T2.size ah);replace hfi:=af hfi;replace Cb:=af Cb;replace aV:=af aV;clear hb3 hout CP k0;go_upto_region 9 with(refine wS 52 24 rfl _ _ yc rfl rfl (ar.new _ _ _) Cb.out rfl aV.out ?_;intro w4 hw4 hr4);have D9:=af (((Below.refl w3.heap.size w3).alloc ah _).trans (hr4.ag (n₀:=w3.heap.size) (by simp) (by simp)));have T4:=T3.step D9.out;clear hr4;go_upto_region 10 with(first
   | (refine wL 52 rfl rfl hw4 underlying52 ?_ rfl rfl Vz.out)
   | (refine wpList_store_mid rfl 52 55 _ _ rfl 24 (fun w=>by kernel_rfl) w.heap.size 2 ac yc rfl rfl T4.one Cb.out (by rw[BS];decide) aV.out ?_;intro w5 eo fh))
  have TP:=T4.put eo fh;have adD:=af fh;obtain⟨zc,dA⟩:=ae (kM ac 2 yc);have dR:Hid (zc.size=30):=af (by rw[<-dA,Ak (by rw[Cb.out,BS];decide),BS.out]);have jZ:Hid ((prog.info? 55).map (·.size)=some zc.size):=af (by rw[dR];kernel_rfl);have aV:Hid (∀v∈zc.toList,v.oneCell'=true):=af (by rw[<-dA];exact EK UJ.out aV.out);rw[dA]at TP;replace dA:=af dA;clear hw4 T4 eo fh;try simp only[PT]
  cases is with
  |false=>have hno:Hid (O=none):=af (by rcases kO.out with⟨-,h⟩ | ⟨h, -⟩;exact h;cases h);exact j5
  | true=>
   obtain⟨r,a2,c2,rfl,hOr,mG⟩:∃(r:List UInt8)(a2:Option Addr)(c2:Nat),v=.slice a2 r.length c2/\O=((bg s).bind fun p=>some ({dS 2 cn with pk:=p},r))/\∀W,ax W a n c (bs l)->ax W a2 r.length c2 (bs r):=by
    rcases kO.out with⟨h, -⟩ | ⟨-,h⟩
    ·cases h
    exact h
   replace hOr:=af hOr;replace mG:=af mG;cases fi with
   | false=>
    have hno:Hid (O=none):=af (by
     rcases hfi.out with⟨-,h⟩ | ⟨h, -⟩
     ·rw[hOr,h];rfl
     cases h)
    exact j5
   | true=>
    obtain⟨y,h,cq,eE,cd⟩:∃(y:Pk)(h:H3),bg s=some y/\yc=(y.cells h).toArray/\BK w2.heap.size w3 y h:=by
     rcases hfi.out with⟨h, -⟩ | ⟨-,h⟩
     ·cases h
     exact h
    replace cq:=af cq;replace eE:=af eE;replace cd:=af cd;go_wp2_with (first
     | (refine wL 55 rfl rfl TP.one underlying55 ?_ rfl rfl jZ.out)
     | (refine wS 55 30 rfl (w.heap.size+1) _ zc rfl rfl TP.two dR.out rfl aV.out ?_;intro w9 cC dN))
    refine bodyPost_ret (ft results29 rfl (aj cC 55 underlying55 rfl jZ.out) rfl rfl) rfl ?_;have YY:BK (w.heap.size+2) w9 y h:=(((cd.mono h23.out).ag D9.out).wrote adD.out (by simp)).wrote dN (by simp);exact⟨TP.low.trans (dN.ag TP.low.size (by simp)),.inr ⟨⟨{dS 2 cn with pk:=y},h,bQ⟩,r,a2,c2,by rw[hOr,cq.out];rfl,by rw[<-dA.out,eE.out,<-vO.out];rfl,fun M hM=>⟨YY.lw M (fun b hb=>by have:=hM b hb;omega),YY.lc M (fun b hb=>by have:=hM b hb;omega),YY.lf M (fun b hb=>by have:=hM b hb;omega),eN.nil _ M⟩,mG.out⟩⟩
 have e2:(k==2)=false:=by simpa using k2
 by_cases k3:k=3
 ·subst k3;have CT:=af (vB a n c l W0 (HR.ag T0.low) (by omega));have h2:Hid (O=(bC l).bind fun s=>some ({dS 3 cn with bytes:=s.1},s.2)):=af (by rw[<-hO.out,qC (t:=dS 3 cn) rfl]);go_wp2_with fail
  refine CT.mono ?_;rintro e w1 ⟨hb1,hout⟩;obtain⟨s,v,is,rfl,kO⟩:∃(s:List UInt8)(v:Value)(is:Bool),e=.returned (.tuple #[.string ⟨s.toArray⟩,v,.bool is])/\((is=false/\O=none)\/(is=true/\∃(r:List UInt8)(a2:Option Addr)(c2:Nat),v=.slice a2 r.length c2/\O=some ({dS 3 cn with bytes:=s},r)/\∀W,ax W a n c (bs l)->ax W a2 r.length c2 (bs r))):=by
   rcases hout with⟨hno,rfl⟩ | ⟨s,r,a2,c2,cq,rfl,hr2⟩
   ·exact⟨[],_,false,rfl,.inl ⟨rfl,by rw[h2,hno];rfl⟩⟩
   exact⟨s,_,true,rfl,.inr ⟨rfl,r,a2,c2,rfl,by rw[h2,cq];rfl,hr2⟩⟩
  have T1:=T0.step hb1;have k0:w1.cell? ⟨w.heap.size,0,none⟩=some (.int .i64 3):=by rw[T1.one.cell,<-vO.out];rfl
  replace kO:=af kO;clear hb1 hout CT h2 T0;go_upto_region 7 with(refine aq rfl 9 55 _ _ rfl (fun w=>by kernel_rfl) w.heap.size 26 _ _ rfl rfl T1.one (by rw[BS];decide) rfl rfl ?_;intro w5 eo fh);have TP:BU w (({dS 3 cn with bytes:=s}:Tn).cells bo bQ).toArray w5:=by have h9:=T1.put eo fh;rw[<-vO.out]at h9;exact h9
  clear T1 eo fh k0;obtain⟨zc,dA⟩:∃zc,(({dS 3 cn with bytes:=s}:Tn).cells bo bQ).toArray=zc:=⟨_,rfl⟩;have dR:Hid (zc.size=30):=af (by rw[<-dA];rfl);have jZ:Hid ((prog.info? 55).map (·.size)=some zc.size):=af (by rw[dR];kernel_rfl);have aV:Hid (∀v∈zc.toList,v.oneCell'=true):=af (by rw[<-dA];exact Tn.one _ _ _);rw[dA]at TP;replace dA:=af dA;try simp only[PT]
  cases is with
  |false=>have hno:Hid (O=none):=af (by rcases kO.out with⟨-,h⟩ | ⟨h, -⟩;exact h;cases h);exact j5
  | true=>
   obtain⟨r,a2,c2,rfl,hOr,mG⟩:∃(r:List UInt8)(a2:Option Addr)(c2:Nat),v=.slice a2 r.length c2/\O=some ({dS 3 cn with bytes:=s},r)/\∀W,ax W a n c (bs l)->ax W a2 r.length c2 (bs r):=by
    rcases kO.out with⟨h, -⟩ | ⟨-,h⟩
    ·cases h
    exact h
   replace hOr:=af hOr;replace mG:=af mG;go_wp2_with (first
    | (refine wL 55 rfl rfl TP.one underlying55 ?_ rfl rfl jZ.out)
    | (refine wS 55 30 rfl (w.heap.size+1) _ zc rfl rfl TP.two dR.out rfl aV.out ?_;intro w9 cC dN))
   refine bodyPost_ret (ft results29 rfl (aj cC 55 underlying55 rfl jZ.out) rfl rfl) rfl ?_;exact⟨TP.low.trans (dN.ag TP.low.size (by simp)),.inr ⟨⟨{dS 3 cn with bytes:=s},bo,bQ⟩,r,a2,c2,hOr.out,by rw[<-dA.out];rfl,zh.zero _ _ _ ⟨rfl,rfl,rfl,rfl⟩,mG.out⟩⟩
 have e3:(k==3)=false:=by simpa using k3
 by_cases k7:k=7
 ·subst k7;have h2:Hid (O=(aX 1 l).bind fun a=>(aX 2 a.2).bind fun n=>some ({dS 7 cn with arm:=(a.1:Int),n:=(n.1:Int)-1},n.2)):=af (by rw[<-hO.out,nV (t:=dS 7 cn) rfl]);by_cases h3:n<3
  ·have d3:decide ((n:Int)<3)=true:=decide_eq_true (by omega);have hno:Hid (O=none):=af (by
    rw[h2];unfold aX;by_cases h:l.length<1
    ·rw[if_pos h];rfl
    rw[if_neg h,Option.bind_some];dsimp only;rw[if_pos (by rw[List.length_drop];omega)];rfl)
   exact kV
  have d3:decide ((n:Int)<3)=false:=decide_eq_false (by omega);obtain⟨x,y,z,l2,rfl⟩:∃x y z l2,l=x::y::z::l2:=by
   match l,hl with
   | x::y::z::l2,_=>exact⟨x,y,z,l2,rfl⟩
   | [_,_],h=>simp at h;omega
   | [_],h=>simp at h;omega
   | [],h=>simp at h;omega
  have hl2:l2.length+3=n:=by simpa using hl
  obtain⟨bb,off,ha, -⟩:=hr.byte (show 0<n by omega);subst ha;obtain⟨xz,ki⟩:=ae (((x.toNat:Nat):Int):Int);obtain⟨yz,jE⟩:=ae (((y.toNat:Nat):Int):Int);obtain⟨zz,hzz⟩:=ae (((z.toNat:Nat):Int):Int);obtain⟨nz,hnz⟩:=ae (256*yz+zz-1:Int);have hx0:0<=xz:=by omega
  have hx1:xz<256:=by have:=x.toNat_lt;omega
  have Vt:0<=yz:=by omega
  have Vu:yz<256:=by have:=y.toNat_lt;omega
  have hz0:0<=zz:=by omega
  have hz1:zz<256:=by have:=z.toNat_lt;omega
  have BC:Hid (∀W,Below w.heap.size w W->W.cell? ⟨bb,off,none⟩=some (.int .u8 xz)/\W.cell? ⟨bb,off+1,none⟩=some (.int .u8 yz)/\W.cell? ⟨bb,off+2,none⟩=some (.int .u8 zz)):=af fun W hb=>by obtain⟨b2,o2,e2,h9⟩:=(HR.ag hb).byte (show 0<n by omega);cases e2;obtain⟨b3,o3,e3,h10⟩:=(HR.ag hb).byte (show 1<n by omega);cases e3;obtain⟨b4,o4,e4,h11⟩:=(HR.ag hb).byte (show 2<n by omega);cases e4;exact⟨by rw[<-ki];simpa using h9,by rw[<-jE];exact h10,by rw[<-hzz];exact h11⟩
  have hOr:Hid (O=some ({dS 7 cn with arm:=xz,n:=nz},l2)):=af (by rw[h2,lM,Option.bind_some];dsimp only;rw[lL,Option.bind_some];dsimp only;rw[ki,show((y.toNat*256+z.toNat:Nat):Int)-1=nz by omega])
  have hle:=HR.le;have hcut:=fun W=>ck Tryz.fP Tryz.xh (some ⟨bb,off,none⟩) n c (3:Int) 3 rfl (by omega) W;rw[show n-3=l2.length by omega]at hcut;have mG:Hid (∀W,ax W (some ⟨bb,off,none⟩) n c (bs (x::y::z::l2))->ax W (eJ (some ⟨bb,off,none⟩) c 3) l2.length (c-3) (bs l2)):=af fun W h=>by have h9:=h.from (i:=3) (by omega);rw[dV,show n-3=l2.length by omega]at h9;exact h9
  replace ki:=af ki;replace jE:=af jE;replace hzz:=af hzz;clear hr hl h2;go_upto_region 14 with fail;try simp only[PT]
  have TD:=T0.step ai.drew;refine aH [(1000,fun w'=>w'.cell? ⟨bb,off,none⟩=some (.int .u8 xz)/\w'.cell? ⟨bb,off+1,none⟩=some (.int .u8 yz)/\w'.cell? ⟨bb,off+2,none⟩=some (.int .u8 zz))] (by kernel_rfl) ⟨BC _ TD.low,trivial⟩ fun KQ aL=>?_;try simp only[PT]
  obtain⟨WD,di⟩:=ae W0.drew;rw[di]at TD ⊢;clear di k0 T0;refine tQ [0,1] ?_;refine aG 2 rfl (by kernel_rfl) (by kernel_rfl) rfl rfl 0 rfl (by kernel_rfl) (.int .u8 xz) (fun w' hf=>by(have k0:=hf.1;go_simp<;>with_reducible rfl)) ?_;simp only[PT];refine tQ [3,4,5] ?_;refine aG 6 rfl (by kernel_rfl) (by kernel_rfl) rfl rfl 0 rfl (by kernel_rfl) (.int .u8 yz) (fun w' hf=>by(have k0:=hf.2.1;go_simp<;>with_reducible rfl)) ?_;simp only[PT];refine tQ [7,8,9,10] ?_;refine aG 11 rfl (by kernel_rfl) (by kernel_rfl) rfl rfl 0 rfl (by kernel_rfl) (.int .u8 zz) (fun w' hf=>by(have k0:=hf.2.2;go_simp<;>with_reducible rfl)) ?_;simp only[PT];refine tQ [12,13,14,15] ?_;refine sQ 16 fun K hK=>?_;simp only[GO];refine aC 53 55 _ _ rfl (fun w=>by kernel_rfl) w.heap.size 27 _ (.int .i64 xz) rfl rfl TD.one (by rw[BS];decide) rfl rfl ?_;intro w4 hw4 hr4;have T4:=TD.put hw4 hr4;refine hK _ _ ⟨⟨fun _=>BC.out _ T4.low,trivial⟩,?_⟩;clear hK K;try simp only[PT]
  refine tQ [17] ?_;refine sQ 18 fun K hK=>?_;simp only[GO];refine aC 3 55 _ _ rfl (fun w=>by kernel_rfl) w.heap.size 28 _ (.int .i64 nz) rfl rfl T4.one (by rw[Array.size_setIfInBounds,BS];decide) rfl rfl ?_;intro w5 eo fh;have T5:=T4.put eo fh;refine hK _ _ ⟨⟨fun _=>BC.out _ T5.low,trivial⟩,?_⟩;clear hK K;try simp only[PT]
  refine dQ (aL.out _ _ ?_);clear aL KQ;have TP:BU w (({dS 7 cn with arm:=xz,n:=nz}:Tn).cells bo bQ).toArray w5:=by rw[<-vO.out]at T5;exact T5
  clear T4 T5 TD hw4 hr4 eo fh;obtain⟨zc,dA⟩:∃zc,(({dS 7 cn with arm:=xz,n:=nz}:Tn).cells bo bQ).toArray=zc:=⟨_,rfl⟩;have dR:Hid (zc.size=30):=af (by rw[<-dA];rfl);have jZ:Hid ((prog.info? 55).map (·.size)=some zc.size):=af (by rw[dR];kernel_rfl);have aV:Hid (∀v∈zc.toList,v.oneCell'=true):=af (by rw[<-dA];exact Tn.one _ _ _);rw[dA]at TP;replace dA:=af dA;go_upto_region 15 with fail;try simp only[PT]
  have TD:=TP.step ai.drew;refine aH [(1000,fun w'=>ar w' w.heap.size zc 55)] (by kernel_rfl) ⟨TD.one,trivial⟩ fun KQ aL=>?_;try simp only[PT]
  obtain⟨WD,di⟩:=ae w5.drew;rw[di]at TD ⊢;clear di TP;refine aG 0 rfl (by kernel_rfl) (by kernel_rfl) rfl rfl 0 rfl (by kernel_rfl) (.agg zc) (fun w' hf=>by(exact aM hf 55 underlying55 rfl jZ.out)) ?_;simp only[PT];refine tQ [1] ?_;refine fX 2 rfl (by kernel_rfl) (by kernel_rfl) rfl Tryz.fP _ hcut ?_;try simp only[PT]
  refine sQ 3 fun K hK=>?_;simp only[GO];refine wW 55 30 rfl (w.heap.size+1) _ zc rfl rfl TD.two dR.out rfl aV.out fun w9 cC dN=>?_;refine hK _ _ ⟨⟨fun _=>TD.one.aw dN (by simp),trivial⟩,?_⟩;clear hK K;try simp only[PT]
  refine tQ [4,5] ?_;refine dQ (aL.out _ _ ?_);clear aL KQ;go_wp2;refine bodyPost_ret (ft results29 rfl (aj cC 55 underlying55 rfl jZ.out) rfl rfl) rfl ?_;exact⟨TD.low.trans (dN.ag TD.low.size (by simp)),.inr ⟨⟨{dS 7 cn with arm:=xz,n:=nz},bo,bQ⟩,l2,_,_,hOr.out,by rw[<-dA.out];rfl,zh.zero _ _ _ ⟨rfl,rfl,rfl,rfl⟩,mG.out⟩⟩
 have e7:(k==7)=false:=by simpa using k7
 by_cases k8:k=8
 ·subst k8;have h2:Hid (O=(aX 1 l).bind fun m=>(bJ cm m.1 m.2).bind fun x=>some ({dS 8 cn with bf:=x.1},x.2)):=af (by rw[<-hO.out,nW (t:=dS 8 cn) rfl]);by_cases h1:n<1
  ·have d1:decide ((n:Int)<1)=true:=decide_eq_true (by omega);have hno:Hid (O=none):=af (by rw[h2];unfold aX;rw[if_pos (by omega)];rfl)
   exact kV
  have d1:decide ((n:Int)<1)=false:=decide_eq_false (by omega);obtain⟨x,l2,rfl⟩:∃x l2,l=x::l2:=by
   match l,hl with
   | x::l2,_=>exact⟨x,l2,rfl⟩
   | [],h=>simp at h;omega
  have hl2:l2.length+1=n:=by simpa using hl
  obtain⟨bb,off,ha, -⟩:=hr.byte (show 0<n by omega);subst ha;obtain⟨m,hm⟩:=ae (x.toNat:Nat);obtain⟨xz,ki⟩:=ae (((m:Nat):Int):Int);have hx0:0<=xz:=by omega
  have hx1:xz<256:=by have:=x.toNat_lt;omega
  have BC:Hid (∀W,Below w.heap.size w W->W.cell? ⟨bb,off,none⟩=some (.int .u8 xz)):=af fun W hb=>by obtain⟨b2,o2,e2,h9⟩:=(HR.ag hb).byte (show 0<n by omega);cases e2;rw[<-ki,<-hm];simpa using h9
  replace h2:Hid (O=(bJ cm m l2).bind fun x=>some ({dS 8 cn with bf:=x.1},x.2)):=af (by rw[h2,lM,Option.bind_some];dsimp only;rw[hm])
  have q0:=BC _ T0.low;by_cases h5:l2.length<m
  ·have d5:decide ((n:Int)<1+xz)=true:=decide_eq_true (by omega);have hno:Hid (O=none):=af (by
    rw[h2];cases hx:bJ cm m l2 with
    | none=>rfl
    | some y=>exact absurd (Jj hx) (by omega))
   exact kV
  have d5:decide ((n:Int)<1+xz)=false:=decide_eq_false (by omega);have hle:=HR.le;have hcut:=fun W=>ck Tryz.fP Tryz.xh (some ⟨bb,off,none⟩) n c (1+xz) (1+m) (by omega) (by omega) W;have M8:(l2.drop m).length=n-(1+m):=by rw[List.length_drop];omega
  rw[<-M8]at hcut;have mG:Hid (∀W,ax W (some ⟨bb,off,none⟩) n c (bs (x::l2))->ax W (eJ (some ⟨bb,off,none⟩) c (1+m)) (l2.drop m).length (c-(1+m)) (bs (l2.drop m))):=af fun W h=>by have h9:=h.from (i:=1+m) (by omega);rw[dV,<-M8,show(x::l2).drop (1+m)=l2.drop m from by rw[Nat.add_comm 1 m,List.drop_succ_cons]]at h9;exact h9
  obtain⟨r2,hr2⟩:=ae (l2.drop m);rw[hr2]at hcut mG M8;replace hr2:=af hr2;replace ki:=af ki;replace M8:=af M8;have hmb:m<256:=by have:=x.toNat_lt;omega
  have T0h:Hid (BU w (({dS 8 cn with bf:=[]}:Tn).cells bo ⟨none,0,0⟩).toArray W0):=af (by rw[<-vO.out]at T0;exact T0);clear hr hl hm;go_wp2_with fail;clear q0 k0 T0 d5 d1;go_loopw [12] (fun i wr=>∃(j:Nat)(xs:List Int)(av:Option Addr)(cv:Nat),i=.int .i64 j/\j<=m/\Hid (bJ cm j l2=some (xs,l2.drop j))/\Hid (BU w (({dS 8 cn with bf:=xs}:Tn).cells bo ⟨av,j,cv⟩).toArray wr)/\Hid (wr.ownsRow (w.heap.size+2) 3 1 (.slice av j cv) j (yK xs))) (fun i _=>m-(intOf i).toNat)
  case atStart=>exact⟨0,[],none,0,by go_num,Nat.zero_le _,af rfl,T0h,af (World.ownsRow_nil _ _ _ _)⟩
  case round=>
   obtain⟨j,xs,av,cv,rfl,hj,eA,hT,how⟩:=hrel;obtain⟨wx,hwx⟩:∃W,W=wr:=⟨_,rfl⟩;subst hwx;have q0:=BC _ hT.out.low;by_cases JY:j<m
   ·have dj:decide ((j:Int)<xz)=true:=decide_eq_true (by have:=ki.out;omega);obtain⟨y,hy⟩:∃y,l2[j]?=some y:=⟨_,List.getElem?_eq_getElem (by omega)⟩;obtain⟨yz,jE⟩:=ae (((y.toNat:Nat):Int):Int);have Vt:0<=yz:=by omega
    have Vu:yz<256:=by have:=y.toNat_lt;omega
    obtain⟨q,hq⟩:=ae (1+j:Nat);have hqi:1+(j:Int)=(q:Int):=by omega
    have BY:Hid (∀W,Below w.heap.size w W->W.cell? ⟨bb,off+q,none⟩=some (.int .u8 yz)):=af fun W hb=>by obtain⟨b2,o2,e2,h9⟩:=(HR.ag hb).byte (show q<n by omega);cases e2;rw[h9,<-hq,Nat.add_comm 1 j,List.getElem?_cons_succ,hy,<-jE];rfl
    have M9:l2.drop j=y::l2.drop (j+1):=by have h9:=List.getElem?_eq_some_iff.1 hy;rw[List.drop_eq_getElem_cons h9.1,h9.2]
    have oT:Hid (bJ cm (j+1) l2=some (xs++[yz],l2.drop (j+1))):=af (by rw[dy,eA.out,Option.bind_some,M9];unfold cm;rw[lM];simp[jE])
    have Gp:q<n:=by omega
    replace jE:=af jE;replace hq:=af hq;replace M9:=af M9;replace hy:=af hy;go_upto_region 22 with fail;try simp only[PT]
    have LD:=hT.out.step ai.drew;obtain⟨WG,Gu⟩:=ae wx.drew;have pP:WG.ownsRow (w.heap.size+2) 3 1 (.slice av j cv) j (yK xs):=by rw[<-Gu];exact aB how.out ai.drew
    refine aH [(11,fun w'=>w'.cell? ⟨w.heap.size,29,none⟩=some (.slice av j cv)),(1000,fun w'=>w'.cell? ⟨bb,off+q,none⟩=some (.int .u8 yz))] (by kernel_rfl) ⟨LD.one.cell 29,BY _ LD.low,trivial⟩ fun KQ aL=>?_;try simp only[PT]
    rw[Gu]at LD ⊢;clear Gu q0;refine tQ [0] ?_;refine aG 1 rfl (by kernel_rfl) (by kernel_rfl) rfl rfl 0 rfl (by kernel_rfl) (.slice av j cv) (fun w' hf=>by(have k0:=hf;go_simp<;>with_reducible rfl)) ?_;simp only[PT];refine tQ [2,3,4,5] ?_;refine aG 6 rfl (by kernel_rfl) (by kernel_rfl) rfl rfl 1 rfl (by kernel_rfl) (.int .u8 yz) (fun w' hf=>by(have k0:=hf;go_simp<;>with_reducible rfl)) ?_;simp only[PT];refine tQ [7] ?_;refine sQ 8 fun K hK=>?_;simp only[GO];go_simp;have rj:=(Below.refl WG.heap.size WG).alloc ah (.cells #[.int .i64 yz] 3);have LE:=LD.step rj;refine hK _ _ ⟨⟨fun _=>LE.one.cell 29,fun _=>BY.out _ LE.low,trivial⟩,?_⟩;clear hK K;try simp only[PT]
    refine sQ 9 fun K hK=>?_;simp only[GO];refine kH _ _ rfl Tryz.ZN (w.heap.size+2) _ j _ rfl pP (.int .i64 yz) rfl rfl (by omega) (by omega) LD.size fun v8 w8 tA JB=>?_;have L8:=LD.grow JB (fun g e=>(pP.lt g e).1);obtain⟨a8,c8,rfl⟩:=aA tA;refine hK _ _ ⟨⟨fun _=>L8.one.cell 29,fun _=>BY.out _ L8.low,trivial⟩,?_⟩;clear hK K;try simp only[PT]
    refine tQ [10] ?_;refine sQ 11 fun K hK=>?_;simp only[GO];refine aC 49 55 _ _ rfl (fun w=>by kernel_rfl) w.heap.size 29 _ _ rfl rfl L8.one (by exact(by decide:29<30)) rfl rfl ?_;intro w9 Gr cC;have L9:BU w (({dS 8 cn with bf:=xs++[yz]}:Tn).cells bo ⟨a8,j+1,c8⟩).toArray w9:=L8.put Gr cC;have nA:Hid (w9.ownsRow (w.heap.size+2) 3 1 (.slice a8 (j+1) c8) (j+1) (yK (xs++[yz]))):=af (by have h9:=jY tA cC (by simp);unfold yK at h9 ⊢;rw[List.map_append];exact h9)
    refine hK _ _ ⟨⟨(fun h=>by cases h),fun _=>BY.out _ L9.low,trivial⟩,?_⟩;clear hK K;try simp only[PT]
    refine dQ (aL.out _ _ ?_);clear aL KQ;have YF:=af L9;clear L9 Gr cC L8 tA JB LE LD pP rj hT how eA;go_wp2_with fail;refine⟨⟨j+1,xs++[yz],a8,c8,by go_num,by omega,oT,YF,nA⟩,by simp[intOf];omega⟩
   obtain rfl:j=m:=by omega
   have dj:decide ((j:Int)<xz)=false:=decide_eq_false (by have:=ki.out;omega);have TP:=hT.out;have hOr:Hid (O=some ({dS 8 cn with bf:=xs},r2)):=af (by rw[h2,eA.out,hr2.out];rfl);obtain⟨zc,dA⟩:∃zc,(({dS 8 cn with bf:=xs}:Tn).cells bo ⟨av,j,cv⟩).toArray=zc:=⟨_,rfl⟩;have dR:Hid (zc.size=30):=af (by rw[<-dA];rfl);have jZ:Hid ((prog.info? 55).map (·.size)=some zc.size):=af (by rw[dR];kernel_rfl);have aV:Hid (∀v∈zc.toList,v.oneCell'=true):=af (by rw[<-dA];exact Tn.one _ _ _);rw[dA]at TP;replace dA:=af dA;go_upto_region 23 with fail;try simp only[PT]
   have TD:=TP.step ai.drew;refine aH [(1000,fun w'=>ar w' w.heap.size zc 55),(1000,fun w'=>w'.cell? ⟨bb,off,none⟩=some (.int .u8 xz))] (by kernel_rfl) ⟨TD.one,BC _ TD.low,trivial⟩ fun KQ aL=>?_;try simp only[PT]
   obtain⟨WD,di⟩:=ae wx.drew;have pP:WD.ownsRow (w.heap.size+2) 3 1 (.slice av j cv) j (yK xs):=by rw[<-di];exact aB how.out ai.drew
   rw[di]at TD ⊢;clear di TP q0;refine aG 0 rfl (by kernel_rfl) (by kernel_rfl) rfl rfl 0 rfl (by kernel_rfl) (.agg zc) (fun w' hf=>by(exact aM hf 55 underlying55 rfl jZ.out)) ?_;simp only[PT];refine tQ [1,2,3] ?_;refine aG 4 rfl (by kernel_rfl) (by kernel_rfl) rfl rfl 1 rfl (by kernel_rfl) (.int .u8 xz) (fun w' hf=>by(have k0:=hf;go_simp<;>with_reducible rfl)) ?_;simp only[PT];refine tQ [5,6] ?_;refine fX 7 rfl (by kernel_rfl) (by kernel_rfl) rfl Tryz.fP _ hcut ?_;try simp only[PT]
   refine sQ 8 fun K hK=>?_;simp only[GO];refine wW 55 30 rfl (w.heap.size+1) _ zc rfl rfl TD.two dR.out rfl aV.out fun w9 cC dN=>?_;have B9:=TD.low.trans (dN.ag TD.low.size (by simp));refine hK _ _ ⟨⟨fun _=>TD.one.aw dN (by simp),fun _=>BC.out _ B9,trivial⟩,?_⟩;clear hK K;try simp only[PT]
   refine tQ [9,10] ?_;refine dQ (aL.out _ _ ?_);clear aL KQ;go_wp2;refine bodyPost_ret (ft results29 rfl (aj cC 55 underlying55 rfl jZ.out) rfl rfl) rfl ?_;have xw:aW jD 1 WD av j cv xs:=by have h9:=pP;rw[vC]at h9;exact cX (f:=jD) (size:=1) (fun _=>rfl) h9 (iL cm j l2 _ xs eA.out)
   refine⟨B9,.inr ⟨⟨{dS 8 cn with bf:=xs},bo,⟨av,j,cv⟩⟩,r2,_,_,hOr.out,by rw[<-dA.out];rfl,fun M hM=>⟨eN.nil _ M,eN.nil _ M,eN.nil _ M,⟨xw.wrote dN (fun hne y hy hm=>by
    have h9:=(pP.lt y.block (by rw[hy];rfl)).1;simp at hm;omega),fun hne y hy hm=>by
    have h9:=(pP.lt y.block (by dsimp only at hy;rw[hy];rfl)).1;have h8:=hM _ hm;omega⟩⟩,mG.out⟩⟩
 have e8:(k==8)=false:=by simpa using k8
 have TP:=T0;have hOr:Hid (O=some (dS k cn,l)):=af (by rw[<-hO.out];unfold fB;rw[if_neg (show¬(dS k cn).kind=2 from k2),if_neg (show¬(dS k cn).kind=3 from k3),if_neg (show¬(dS k cn).kind=7 from k7),if_neg (show¬(dS k cn).kind=8 from k8),if_pos (.inr rfl)])
 obtain⟨zc,dA⟩:=ae ac;have dR:Hid (zc.size=30):=af (by rw[<-dA];exact BS.out);have jZ:Hid ((prog.info? 55).map (·.size)=some zc.size):=af (by rw[dR];kernel_rfl);have aV:Hid (∀v∈zc.toList,v.oneCell'=true):=af (by rw[<-dA];exact UJ.out);rw[dA]at TP;replace dA:=af dA;clear T0 k0;go_wp2_with (first
  | (refine wL 55 rfl rfl TP.one underlying55 ?_ rfl rfl jZ.out)
  | (refine wS 55 30 rfl (w.heap.size+1) _ zc rfl rfl TP.two dR.out rfl aV.out ?_;intro w9 cC dN))
 refine bodyPost_ret (ft results29 rfl (aj cC 55 underlying55 rfl jZ.out) rfl rfl) rfl ?_;exact⟨TP.low.trans (dN.ag TP.low.size (by simp)),.inr ⟨⟨dS k cn,bo,bQ⟩,l,a,c,hOr.out,by rw[<-dA.out,<-vO.out,hl];rfl,zh.zero _ _ _ ⟨rfl,rfl,rfl,rfl⟩,fun W h=>by rw[hl];exact h⟩⟩
end
section
theorem eW{P:Prop}(h:P:=by
 go_wp2_with (refine wS 30 9 rfl w.heap.size _ kR.cells.toArray rfl rfl gR rfl rfl PN ?_;intro w9 cC dN)
 refine bodyPost_ret (aS results9 rfl (aj cC 30 underlying30 rfl (by kernel_rfl)) rfl) rfl ?_;have gX:=gL.trans (dN.ag gL.size (by simp))
 first
  | exact⟨gX,.inl ⟨by rw[hl.out];omega,rfl⟩⟩
  | exact⟨gX,.inr (.inl ⟨by rw[hl.out];omega,zi (by rw[hl.out];omega),rfl⟩)⟩
  | exact⟨gX,.inr (.inl ⟨zj.out,iK.out,rfl⟩)⟩
  | exact⟨gX,.inr (.inl ⟨zj.out,Jl hnone.out,rfl⟩)⟩):P:=h
attribute [local go_sem] Oper.semAt_some
def jg(l:List UInt8)(j:Nat):Int:=((256*(l[2*j]?.getD 0).toNat+(l[2*j+1]?.getD 0).toNat:Nat):Int)
theorem xR(l:List UInt8):∀k:Nat,2*k<=l.length->bJ jR k l=some ((List.range k).map (jg l),l.drop (2*k))
 | 0,_=>rfl
 | k+1,h=>by
  rw[dy,xR l k (by omega),Option.bind_some];have e1:l.drop (2*k)=l[2*k]::l[2*k+1]::l.drop (2*(k+1)):=by rw[List.drop_eq_getElem_cons (by omega),List.drop_eq_getElem_cons (by omega)];rfl
  dsimp only;rw[e1];unfold jR;rw[lL,List.range_succ,List.map_append];simp only[Option.bind_some,List.map_cons,List.map_nil];unfold jg;rw[List.getElem?_eq_getElem (by omega),List.getElem?_eq_getElem (by omega)];simp only[Option.getD_some];congr 4;omega
def EL(f:Nat->Int)(k:Nat):Array Value:=#[.int .i64 (if 0<k then f 0 else 0),.int .i64 (if 1<k then f 1 else 0),.int .i64 (if 2<k then f 2 else 0),.int .i64 (if 3<k then f 3 else 0),.int .i64 (if 4<k then f 4 else 0),.int .i64 (if 5<k then f 5 else 0),.int .i64 (if 6<k then f 6 else 0)]
theorem Na(f:Nat->Int){k:Nat}(h:k<7):(EL f k).setIfInBounds k (.int .i64 (f k))=EL f (k+1):=by
 have:k=0\/k=1\/k=2\/k=3\/k=4\/k=5\/k=6:=by omega
 rcases this with rfl | rfl | rfl | rfl | rfl | rfl | rfl<;>rfl
structure P7I (w:World)(cs:Array Value)(W:World):Prop where
 low:Below w.heap.size w W
 res:ar W w.heap.size kR.cells.toArray 30
 arr:ar W (w.heap.size+1) cs 77
structure QI (l0:List UInt8)(w:World)(sb:Nat)(cf:nS)(pg:Int)(ts:List dE)(r:List UInt8)(v:Value)(W:World):Prop where
 read:bJ (cw fR true) ts.length l0=some (ts.map dE.t,r)
 low:Below w.heap.size w W
 res:ar W w.heap.size kR.cells.toArray 30
 lo:w.heap.size<sb
 sc:ar W sb (zu cf pg v) 30
 row:W.ownsRow (sb+1) 55 30 v ts.length (ts.flatMap dE.cells)
 each:∀x∈ts,∀M,(∀b∈M,b<sb+1)->vx W x (M++blk v)
theorem QI.size{l0:List UInt8}{w:World}{sb:Nat}{cf:nS}{pg:Int}{ts:List dE}{r:List UInt8}{v:Value}{W:World}(h:QI l0 w sb cf pg ts r v W):sb+1<=W.heap.size:=h.sc.lt
theorem QI.next{l0:List UInt8}{w:World}{sb:Nat}{cf:nS}{pg:Int}{ts:List dE}{r r2:List UInt8}{v v':Value}{W W8 W9 W10:World}{y:dE}(h:QI l0 w sb cf pg ts r v W)(hb:Below W.heap.size W W8)(hy:zh W.heap.size W8 y)(hr:cw fR true r=some (y.t,r2))
  (how:W9.ownsRow (sb+1) 55 30 v' (ts.length+1) (ts.flatMap dE.cells++y.cells)) (hg:ak (blk v) W8 W9) (hn:∀k,v'.ownBlock=some k->v.ownBlock=some k\/W8.heap.size<=k)
  (hw:ak [sb] W9 W10) (hs:ar W10 (sb) (zu cf pg v') 30):QI l0 w sb cf pg (ts++[y]) r2 v' W10:=by
 have hz:=h.size;have aiI:=h.lo;have RB:∀k∈blk v,sb+1<=k/\k<W.heap.size:=fun k hk=>h.row.lt k (bA.1 hk);have st:∀x:dE,(∀M,(∀b∈M,b<sb+1)->vx W8 x (M++blk v))->∀M,(∀b∈M,b<sb+1)->vx W10 x (M++blk v'):=fun x hx M hM=>by
  have h1:=hx (M++[sb]) (fun b hb=>by
   rcases List.mem_append.1 hb with hb | hb
   ·exact hM b hb
   simp at hb;omega)
  have h2:=h1.step hg (M2:=(M++[sb])++blk v') (fun b hb=>.inl (List.mem_append_right _ hb)) (fun b hb=>by
   rcases List.mem_append.1 hb with hb | hb
   ·exact .inl (List.mem_append_left _ hb)
   rcases hn b (bA.1 hb)with h3 | h3
   ·exact .inl (List.mem_append_right _ (bA.2 h3))
   exact .inr h3)
  exact h2.step hw (fun b hb=>.inl (List.mem_append_left _ (List.mem_append_right _ hb))) (fun b hb=>by
   rcases List.mem_append.1 hb with hb | hb
   ·exact .inl (List.mem_append_left _ (List.mem_append_left _ hb))
   exact .inl (List.mem_append_right _ hb))
 have b8:=h.low.trans (hb.mono h.low.size);have b9:=b8.trans (hg.ag b8.size (fun k hk=>by have:=(RB k hk).1;omega));refine⟨?_,b9.trans (hw.ag b9.size (by simp;try omega)),?_,h.lo,hs,?_,fun x hx=>?_⟩
 ·rw[List.length_append,List.length_singleton,dy,h.read,Option.bind_some,hr,Option.bind_some,List.map_append];rfl
 ·exact((h.res.ag hb).aw hg (fun hm=>by have:=(RB _ hm).1;omega)).aw hw (by simp;try omega)
 ·rw[List.length_append,List.length_singleton,List.flatMap_append];have:=jY how hw (by simp;try omega);simpa using this
 rcases List.mem_append.1 hx with hx | hx
 ·refine st x (fun M hM=>?_);exact(h.each x hx M hM).step (ak.aK (M:=[]) hb) (fun b hb=>by cases hb) (fun b hb=>.inl hb)
 have hx:x=y:=by simpa using hx
 subst hx;refine st x (fun M hM=>hy _ (fun b hb=>?_));rcases List.mem_append.1 hb with hb | hb
 ·have:=hM b hb;omega
 exact(RB b hb).2
theorem EN{r:List UInt8}(h:r.length<3):cw fR true r=none:=by
 unfold cw
 match r,h with
 | [],_=>rfl
 | [x],_=>rw[lM];rfl
 | [x,y],_=>rw[lM];rfl
 | _::_::_::_,h=>simp at h;omega
theorem Jm(x y z:UInt8)(r:List UInt8):cw fR true (x::y::z::r)=fB fR true (dS (x.toNat:Int) ((256*y.toNat+z.toNat:Nat):Int)) r:=by unfold cw;rw[lM,Option.bind_some];dsimp only;rw[lL,Option.bind_some,Nat.mul_comm];rfl
theorem EO{r r2:List UInt8}{t:Tn}(h:cw fR true r=some (t,r2)):r2.length<r.length:=by have h1:=pC fR h;have h2:=Al fR t;rw[h1,List.length_append];have:=List.length_pos_iff.2 h2;omega
theorem Jl{l:List UInt8}(h:bh fR true l=none):∀s,bh fR false l=some s->¬bZ s:=fun s h1 h2=>by rw[nD false true h1 h2]at h;cases h
theorem zi{l:List UInt8}(h:l.length<16):∀s,bh fR false l=some s->¬bZ s:=fun s h1 h2=>by have h3:=mj fR h1;have h4:=congrArg List.length h3;unfold ij je aI at h4;simp only[List.flatMap_cons,List.flatMap_nil,List.length_append,aO,List.length_nil]at h4;omega
theorem PQ(c:nS)(pg:Int)(v:Value)(h:v.oneCell'=true):∀u∈(zu c pg v).toList,u.oneCell'=true:=by intro u hu;simp only[zu,List.mem_cons,List.not_mem_nil,or_false]at hu;rcases hu with h | h | h | h | h | h | h | h | h<;>subst h<;>first | rfl | assumption
theorem PN:∀u∈kR.cells.toArray.toList,u.oneCell'=true:=by decide
structure TuQ (r:List UInt8)(a':Option Addr)(c':Nat)(wx:World)(tb:Nat)(b:Bool)(Ts:Value)(W:World):Prop where
 ag:Below wx.heap.size wx W
 out:(b=false/\cw fR true r=none)\/(b=true/\∃(y:dE)(r2:List UInt8)(a2:Option Addr)(c2:Nat),ar W tb y.cells.toArray 55/\Ts=.slice a2 r2.length c2/\cw fR true r=some (y.t,r2)/\zh wx.heap.size W y/\∀U,ax U a' r.length c' (bs r)->ax U a2 r2.length c2 (bs r2))
def rowLen:Value->Nat
 | .slice _ n _=>n
 | _=>0
theorem Jn(a:Option Addr)(n c:Nat)(l:List UInt8)(w:World)(hrow:ax w a n c (bs l))(hn:n<=70368744177664):Calls prog 9 #[.slice a n c] w (A8 fR l w):=by
 have hl:l.length=n:=by have:=hrow.len;rw[cV]at this;exact this
 have hZ:ar (w.alloc (.cells kR.cells.toArray 30)) w.heap.size kR.cells.toArray 30:=ar.new _ _ _;have b0:Hid (Below w.heap.size w (w.alloc (.cells kR.cells.toArray 30))):=af (ai.alloc ah _);by_cases h1:65536<n
 ·have d1:decide (65536<(n:Int))=true:=decide_eq_true (by omega);have hl:=af hl;go_enter func9,ntmps9;have gR:=hZ;have gL:=b0.out;exact eW
 have d1:decide (65536<(n:Int))=false:=decide_eq_false (by omega);by_cases h2:n<16
 ·have d2:decide ((n:Int)<16)=true:=decide_eq_true (by omega);have hl:=af hl;go_enter func9,ntmps9;have gR:=hZ;have gL:=b0.out;exact eW
 have d2:decide ((n:Int)<16)=false:=decide_eq_false (by omega);have htw:=xR l 7 (by omega);obtain⟨bb,off,ha, -⟩:=hrow.byte (show 0<n by omega);subst ha;have HR:=af hrow;have hle:=hrow.le;obtain⟨l1,xj⟩:=ae (l.drop 14);have Jo:l1.length=n-14:=by rw[<-xj,List.length_drop,hl]
 obtain⟨z0,hz0⟩:=ae (jg l 0);obtain⟨z1,hz1⟩:=ae (jg l 1);obtain⟨z2,hz2⟩:=ae (jg l 2);obtain⟨z3,hz3⟩:=ae (jg l 3);obtain⟨z4,Tv⟩:=ae (jg l 4);obtain⟨z5,FC⟩:=ae (jg l 5);obtain⟨z6,Sw⟩:=ae (jg l 6);have Y0:Hid (bJ jR 7 l=some ([z0,z1,z2,z3,z4,z5,z6],l1)):=af (by rw[htw,<-hz0,<-hz1,<-hz2,<-hz3,<-Tv,<-FC,<-Sw,<-xj];rfl);have hsc:Hid (bh fR true l=(bC l1).bind fun s=>(cx (cw fR true) s.2.length s.2).bind fun ts=>some ⟨⟨z0,z1,z2,z3,z4,z5,s.1⟩,z6,ts⟩):=af (by unfold bh;rw[Y0];rfl);have UK:=fun W=>ck Tryz.fP Tryz.xh (some ⟨bb,off,none⟩) n c (14:Int) 14 rfl (by omega) W;rw[<-Jo]at UK;have R1:Hid (∀W,Below w.heap.size w W->ax W (eJ (some ⟨bb,off,none⟩) c 14) l1.length (c-14) (bs l1)):=af fun W hb=>by have h9:=(HR.ag hb).from (i:=14) (by omega);rw[dV,xj,<-Jo]at h9;exact h9
 have UL:∀W,P7I w (EL (jg l) 7) W->(W.cell? ⟨w.heap.size+1,0,none⟩=some (.int .i64 z0)/\W.cell? ⟨w.heap.size+1,1,none⟩=some (.int .i64 z1)/\W.cell? ⟨w.heap.size+1,2,none⟩=some (.int .i64 z2)/\W.cell? ⟨w.heap.size+1,3,none⟩=some (.int .i64 z3)/\W.cell? ⟨w.heap.size+1,4,none⟩=some (.int .i64 z4)/\W.cell? ⟨w.heap.size+1,5,none⟩=some (.int .i64 z5)/\W.cell? ⟨w.heap.size+1,6,none⟩=some (.int .i64 z6)):=fun W h=>by rw[<-hz0,<-hz1,<-hz2,<-hz3,<-Tv,<-FC,<-Sw];exact⟨h.arr.cell 0,h.arr.cell 1,h.arr.cell 2,h.arr.cell 3,h.arr.cell 4,h.arr.cell 5,h.arr.cell 6⟩
 have UL:=af UL;have P0:Hid (P7I w (EL (jg l) 0) ((w.alloc (.cells kR.cells.toArray 30)).alloc (.cells (EL (jg l) 0) 77))):=af ⟨b0.alloc b0.size _,hZ.alloc _,ar.jb _ _ _ _ (by simp)⟩;have zj:Hid (l.length<=65536):=af (by omega);clear hZ hrow htw xj hz0 hz1 hz2 hz3 Tv FC Sw b0;replace hl:=af hl;replace Jo:=af Jo;go_enter func9,ntmps9;go_wp2_with fail
 clear d1 d2 h1;go_loopw [5] (fun i wr=>∃j:Nat,j<=7/\i=.int .i64 j/\Hid (P7I w (EL (jg l) j) wr)) (fun i _=>7-(intOf i).toNat)
 case atStart=>exact⟨0,by decide,by go_num,P0⟩
 case round=>
  obtain⟨j,hj,rfl,hP⟩:=hrel;obtain⟨wx,hwx⟩:∃W,W=wr:=⟨_,rfl⟩;subst hwx;by_cases hj7:j<7
  ·obtain⟨q,hq⟩:=ae (2*j:Nat);have hqi:2*(j:Int)=(q:Int):=by omega
   obtain⟨u,hu⟩:=ae ((((l[q]?.getD 0).toNat:Nat):Int):Int);obtain⟨v,hv⟩:=ae ((((l[q+1]?.getD 0).toNat:Nat):Int):Int);have hu0:0<=u:=by omega
   have hu1:u<256:=by have:=(l[q]?.getD 0).toNat_lt;omega
   have hv0:0<=v:=by omega
   have NT:v<256:=by have:=(l[q+1]?.getD 0).toNat_lt;omega
   obtain⟨fz,hfz⟩:=ae (256*u+v:Int);have hft:Hid (jg l j=fz):=af (by unfold jg;rw[hq,<-hfz,<-hu,<-hv];omega);have BC:Hid (∀W,Below w.heap.size w W->W.cell? ⟨bb,off+q,none⟩=some (.int .u8 u)/\W.cell? ⟨bb,off+(q+1),none⟩=some (.int .u8 v)):=af fun W hb=>by obtain⟨b2,o2,e2,h9⟩:=(HR.ag hb).byte (show q<n by omega);cases e2;obtain⟨b3,o3,e3,h10⟩:=(HR.ag hb).byte (show q+1<n by omega);cases e3;exact⟨by rw[<-hu];exact h9,by rw[<-hv];exact h10⟩
   have Gp:q+1<n:=by omega
   replace hu:=af hu;replace hv:=af hv;replace hq:=af hq;go_upto_region 9 with fail;try simp only[PT]
   have LD:=hP.out.low.drew;refine aH [(1000,fun w'=>w'.cell? ⟨bb,off+q,none⟩=some (.int .u8 u)/\w'.cell? ⟨bb,off+(q+1),none⟩=some (.int .u8 v))] (by kernel_rfl) ⟨BC _ LD,trivial⟩ fun KQ aL=>?_;try simp only[PT]
   have AD:=hP.out.arr.drew;have RD:=hP.out.res.drew;obtain⟨WD,di⟩:=ae wx.drew;rw[di]at LD AD RD ⊢;clear di;refine tQ [0,1,2,3,4] ?_;refine aG 5 rfl (by kernel_rfl) (by kernel_rfl) rfl rfl 0 rfl (by kernel_rfl) (.int .u8 u) (fun w' hf=>by(have k0:=hf.1;go_simp<;>with_reducible rfl)) ?_;simp only[PT];refine tQ [6,7,8,9,10,11,12] ?_;refine aG 13 rfl (by kernel_rfl) (by kernel_rfl) rfl rfl 0 rfl (by kernel_rfl) (.int .u8 v) (fun w' hf=>by(have k0:=hf.2;go_simp<;>with_reducible rfl)) ?_;simp only[PT];refine tQ [14,15,16] ?_;refine sQ 17 fun K hK=>?_;simp only[GO];refine aC 3 77 _ _ rfl (fun w=>by kernel_rfl) (w.heap.size+1) j _ (.int .i64 fz) rfl rfl AD (by exact hj7) rfl rfl ?_;intro w5 eo fh;rw[<-hft,Na _ hj7]at eo;have P5:Hid (P7I w (EL (jg l) (j+1)) w5):=af ⟨LD.trans (fh.ag LD.size (by simp)),RD.aw fh (by simp),eo⟩;refine hK _ _ ⟨⟨fun _=>BC.out _ P5.low,trivial⟩,?_⟩;clear hK K;try simp only[PT]
   refine dQ (aL.out _ _ ?_);clear aL KQ;go_wp2_with fail;refine⟨⟨j+1,by omega,by go_num,P5⟩,by simp[intOf];omega⟩
  obtain rfl:j=7:=by omega
  obtain⟨k0,k1,k2,k3,k4,k5,k6⟩:=UL _ hP.out;have Y1:=af hP.out;have CT:=af (fun W (hb:Below w.heap.size w W)=>vB (eJ (some ⟨bb,off,none⟩) c 14) l1.length (c-14) l1 W (R1 W hb) (by have:=Jo.out;omega));clear hP;go_upto_region 11 with fail;obtain⟨w3,Nb⟩:=ae (wx.alloc (.cells #[.int .i64 z0,.int .i64 z1,.int .i64 z2,.int .i64 z3,.int .i64 z4,.int .i64 z5,.string ⟨#[]⟩,.int .i64 z6,.slice none 0 0] 30));rw[Nb];have hw3:ar w3 wx.heap.size (zu ⟨z0,z1,z2,z3,z4,z5,[]⟩ z6 (.slice none 0 0)) 30:=by rw[<-Nb];exact ar.new _ _ _
  have P3:Below w.heap.size w w3:=by rw[<-Nb];exact Y1.low.alloc Y1.low.size _
  have lo3:w.heap.size<wx.heap.size:=by have:=Y1.res.lt;omega
  have Y2:ar w3 w.heap.size kR.cells.toArray 30:=by rw[<-Nb];exact Y1.res.alloc _
  obtain⟨sb,eD⟩:=ae wx.heap.size;rw[eD]at hw3 lo3 ⊢;clear Nb eD Y1 k0 k1 k2 k3 k4 k5 k6;have Cj:=CT w3 P3;have Y6:=af P3;have lo3:=af lo3;have Y2:=af Y2;have hw3:=af hw3;clear P3;go_wp2_with fail;refine Cj.mono ?_;rintro e w4 ⟨hb4,⟨hno,rfl⟩ | ⟨sec,r0,a2,c2,cq,rfl,hr2⟩⟩
  ·have hnone:Hid (bh fR true l=none):=af (by rw[hsc,hno];rfl);have L4:=af (Y6.trans (hb4.mono Y6.size));have R4:=Y2.ag hb4;clear Cj hb4 hno CT;have gR:=R4;have gL:=L4.out;exact eW
  have L4:=af (Y6.trans (hb4.mono Y6.size));have R4:=af (Y2.ag hb4);have S4:=hw3.ag hb4;have PR:Hid (bh fR true l=(cx (cw fR true) r0.length r0).bind fun ts=>some ⟨⟨z0,z1,z2,z3,z4,z5,sec⟩,z6,ts⟩):=af (by rw[hsc,cq];rfl);have mC:Hid (∀W,Below w.heap.size w W->ax W a2 r0.length c2 (bs r0)):=af fun W hb=>hr2 W (R1 W hb);have Nk:r0.length<=65536:=by have:=iM cq;have:=Jo.out;have:=zj.out;have:=hl.out;omega
  clear Cj hb4 cq hr2 CT hw3 Y2 Y6;obtain⟨cf,Cc⟩:=ae ((⟨z0,z1,z2,z3,z4,z5,sec⟩:nS):nS);rw[Cc]at PR;go_wp2_with (refine aq rfl 9 30 _ _ rfl (fun w=>by kernel_rfl) sb 6 _ (.string ⟨sec.toArray⟩) rfl rfl S4 (by exact(by decide:6<9)) rfl rfl ?_;intro w5 eo fh)
  have lo:=lo3.out;have Q0:Hid (QI r0 w sb cf z6 [] r0 (.slice none 0 0) w5):=af ⟨rfl,L4.trans (fh.ag L4.size (by simp;omega)),R4.aw fh (by simp;omega),lo,by rw[<-Cc];exact eo,World.ownsRow_nil _ _ _ _,by simp⟩;replace Cc:=af Cc;clear S4 eo fh R4 L4;try simp only[PT]
  go_loopw [8,10,11,12] (fun s8 Xj Ts s12 wr=>∃(r:List UInt8)(a':Option Addr)(c':Nat)(ts:List dE)(av:Option Addr)(cv:Nat),s8=.slice a' r.length c'/\Hid (∀W,Below w.heap.size w W->ax W a' r.length c' (bs r))/\Hid (QI r0 w sb cf z6 ts r (.slice av ts.length cv) wr)/\3*ts.length+r.length<=r0.length) (fun s8 _ _ _ _=>rowLen s8)
  case atStart=>exact⟨r0,a2,c2,[],none,0,rfl,mC,Q0,by simp⟩
  case round=>
   obtain⟨r,a',c',ts,av,cv,rfl,UM,hQ,hlen⟩:=hrel;obtain⟨wx,hwx⟩:∃W,W=wr:=⟨_,rfl⟩;subst hwx;have hall:=af (ej (cw fR true) (fun l x r h=>EO h) ts.length r0.length r0 r (ts.map dE.t) hQ.out.read ah);by_cases Y7:r.length=0
   ·have d0:decide (0<(r.length:Int))=false:=decide_eq_false (by omega);obtain rfl:r=[]:=List.eq_nil_of_length_eq_zero Y7;have hsome:=hall.1 rfl;obtain⟨s,hs⟩:=ae ((⟨cf,z6,⟨av,ts.length,cv⟩,ts⟩:lj):lj);have UN:Hid (bh fR true l=some s.sc):=af (by rw[PR,hsome,<-hs];rfl);obtain⟨sv,eQ⟩:=ae (zu cf z6 (.slice av ts.length cv));have PS:s.cells.toArray=sv:=by rw[<-eQ,<-hs];rfl
    have cd:∀W,Below wx.heap.size wx W->s.In W:=fun W hb=>by rw[<-hs];exact⟨(cX (f:=dE.cells) (size:=30) (fun _=>rfl) hQ.out.row rfl).ag hb,fun x hx=>((hQ.out.each x hx [] (by simp)).step (ak.aK (M:=[]) hb) (fun b hb=>by cases hb) (fun b hb=>.inl hb)).OQ⟩
    have CR:=af (Jk s wx (cd wx ai) (fun x hx h2=>fK (pL UN.out x.t (by show x.t∈s.ts.map dE.t;exact List.mem_map_of_mem hx) h2)));rw[PS]at CR;have VA:Hid ((prog.info? 30).map (·.size)=some sv.size):=af (by rw[<-eQ];exact(by kernel_rfl:(prog.info? 30).map (·.size)=some 9));have Tp:Hid (sv.size=9):=af (by rw[<-eQ];rfl);have aV:Hid (∀u∈sv.toList,u.oneCell'=true):=af (by rw[<-eQ];exact PQ _ _ _ rfl);have S1:=hQ.out.sc;rw[eQ]at S1;have cd:=af cd;have QX:=af hQ.out;have hown:Hid (wx.ownsRow (sb+1) 55 30 (.slice av ts.length cv) ts.length (ts.flatMap dE.cells)):=af hQ.out.row;have S1h:=af S1;replace PS:=af PS;replace eQ:=af eQ;replace hs:=af hs;clear hsome hQ;go_wp2_with (refine wL 30 rfl rfl S1 underlying30 ?_ rfl rfl VA.out);refine CR.mono ?_;rintro e w7 ⟨b,rfl,hb,ou⟩;have R7:=QX.res.ag ou;have L7:=af (QX.low.trans (ou.mono QX.low.size));have S7:=S1h.ag ou;clear S1 CR;cases b with
    | false=>
     have hno:Hid (¬bZ s.sc):=af (fun h=>by have:=hb.2 h;cases this);have iK:Hid (∀s',bh fR false l=some s'->¬bZ s'):=af (fun s' h1 h2=>by have h3:=nD false true h1 h2;rw[UN]at h3;cases h3;exact hno h2)
     clear hb S7;have gR:=R7;have gL:=L7.out;exact eW
    | true=>
     have Nc:=af (hb.1 rfl);have Y8:=af ou;clear hb ou;go_wp2_with (first
      | (refine wL 30 rfl rfl S7 underlying30 ?_ rfl rfl VA.out)
      | (refine wS 30 9 rfl w.heap.size _ sv rfl rfl R7 Tp.out rfl aV.out ?_;intro w9 cC dN))
     refine bodyPost_ret (aS results9 rfl (aj cC 30 underlying30 rfl VA.out) rfl) rfl ?_;refine⟨L7.trans (dN.ag L7.size (by simp)),.inr (.inr ⟨zj.out,s,nD true false UN.out Nc.out,Nc.out,by rw[PS.out];rfl,?_⟩)⟩;rw[<-hs.out];have hlt:=fun k=>hown.lt k;have h7:=cX (f:=dE.cells) (size:=30) (fun _=>rfl) (aB hown.out Y8.out) rfl;refine⟨h7.wrote dN (fun hne y hy hm=>by have h9:=(hlt y.block (by rw[hy];rfl)).1;simp at hm;omega),fun x hx=>?_⟩
     exact(((QX.each x hx [w.heap.size] (by simp;omega)).step (ak.aK (M:=[]) Y8.out) (fun b hb=>by cases hb) (fun b hb=>.inl hb)).step dN (fun b hb=>.inl (by simp at hb;simp[hb])) (M2:=[]) (fun b hb=>by cases hb)).OQ
   have d0:decide (0<(r.length:Int))=true:=decide_eq_true (by omega);have hne:Hid (r≠[]):=af (fun h=>Y7 (by rw[h];rfl));by_cases hr3:r.length<3
   ·have d3:decide ((r.length:Int)<3)=true:=decide_eq_true (by omega);have hnone:Hid (bh fR true l=none):=af (by rw[PR,hall.2 hne.out (EN hr3)];rfl);have QX:=hQ.out;clear hQ;have gR:=QX.res;have gL:=QX.low;exact eW
   have d3:decide ((r.length:Int)<3)=false:=decide_eq_false (by omega);obtain⟨x,y,z,l4,hr4⟩:∃x y z l4,r=x::y::z::l4:=by
    match r,hr3 with
    | x::y::z::l4,_=>exact⟨x,y,z,l4,rfl⟩
    | [_,_],h=>simp at h
    | [_],h=>simp at h
    | [],h=>simp at h
   have hl4:l4.length+3=r.length:=by rw[hr4];rfl
   obtain⟨kz,Mr⟩:=ae (((x.toNat:Nat):Int):Int);obtain⟨yz,jE⟩:=ae (((y.toNat:Nat):Int):Int);obtain⟨zz,hzz⟩:=ae (((z.toNat:Nat):Int):Int);obtain⟨cz,dR⟩:=ae (256*yz+zz:Int);have hx0:0<=kz:=by omega
   have hx1:kz<256:=by have:=x.toNat_lt;omega
   have Vt:0<=yz:=by omega
   have Vu:yz<256:=by have:=y.toNat_lt;omega
   have hz0:0<=zz:=by omega
   have hz1:zz<256:=by have:=z.toNat_lt;omega
   have hrt:Hid (cw fR true r=fB fR true (dS kz cz) l4):=af (by rw[hr4,Jm,Mr,<-dR,<-jE,<-hzz];congr 2);obtain⟨b2,o2,ha2, -⟩:=(UM.out _ hQ.out.low).byte (show 0<r.length by omega);subst ha2;have BC:Hid (∀W,Below w.heap.size w W->W.cell? ⟨b2,o2,none⟩=some (.int .u8 kz)/\W.cell? ⟨b2,o2+1,none⟩=some (.int .u8 yz)/\W.cell? ⟨b2,o2+2,none⟩=some (.int .u8 zz)):=af fun W hb=>by obtain⟨b3,o3,e3,h9⟩:=(UM.out W hb).byte (show 0<r.length by omega);cases e3;obtain⟨b4,o4,e4,h10⟩:=(UM.out W hb).byte (show 1<r.length by omega);cases e4;obtain⟨b5,o5,e5,h11⟩:=(UM.out W hb).byte (show 2<r.length by omega);cases e5;rw[hr4]at h9 h10 h11;exact⟨by rw[<-Mr];simpa using h9,by rw[<-jE];exact h10,by rw[<-hzz];exact h11⟩
   have hcr:=(UM.out _ hQ.out.low).le;have Nd:=fun W=>ck Tryz.fP Tryz.xh (some ⟨b2,o2,none⟩) r.length c' (3:Int) 3 rfl (by omega) W;rw[show r.length-3=l4.length by omega]at Nd;have VB:∀W,ax W (some ⟨b2,o2,none⟩) r.length c' (bs r)->ax W (eJ (some ⟨b2,o2,none⟩) c' 3) l4.length (c'-3) (bs l4):=fun W hb=>by
    have h9:=hb.from (i:=3) (by omega);rw[dV,show r.length-3=l4.length by omega]at h9;have e:r.drop 3=l4:=by rw[hr4];rfl
    rw[e]at h9;exact h9
   have VB:=af VB;have xJ:Hid (∀W,Below w.heap.size w W->ax W (eJ (some ⟨b2,o2,none⟩) c' 3) l4.length (c'-3) (bs l4)):=af fun W hb=>VB.out W (UM.out W hb);obtain⟨a4,ha4⟩:=ae (eJ (some ⟨b2,o2,none⟩) c' 3);obtain⟨c4,Jv⟩:=ae (c'-3);rw[ha4,Jv]at Nd xJ VB;have aiL:l4.length<=65536:=by omega
   replace Mr:=af Mr;replace jE:=af jE;replace hzz:=af hzz;replace hr4:=af hr4;clear ha4 Jv;go_upto_region 18 with fail;try simp only[PT]
   go_cut [10,11,12]from 72 to 110 (fun Xj Ts s12 wy=>∃(tb:Nat)(b:Bool),Xj=.pointer (some ⟨tb,0,none⟩)/\s12=.bool b/\Hid (TuQ r (some ⟨b2,o2,none⟩) c' wx tb b Ts wy))
   case first=>
    have LD:=hQ.out.low.drew;have EH:Below wx.heap.size wx wx.drew:=ai.drew;refine aH [(1000,fun w'=>w'.cell? ⟨b2,o2,none⟩=some (.int .u8 kz)/\w'.cell? ⟨b2,o2+1,none⟩=some (.int .u8 yz)/\w'.cell? ⟨b2,o2+2,none⟩=some (.int .u8 zz))] (by kernel_rfl) ⟨BC _ LD,trivial⟩ fun KQ aL=>?_;try simp only[PT]
    obtain⟨WD,di⟩:=ae wx.drew;rw[di]at LD EH ⊢;clear di;refine tQ [0,1] ?_;refine aG 2 rfl (by kernel_rfl) (by kernel_rfl) rfl rfl 0 rfl (by kernel_rfl) (.int .u8 kz) (fun w' hf=>by(have k0:=hf.1;go_simp<;>with_reducible rfl)) ?_;simp only[PT];refine tQ [3,4,5] ?_;refine aG 6 rfl (by kernel_rfl) (by kernel_rfl) rfl rfl 0 rfl (by kernel_rfl) (.int .u8 yz) (fun w' hf=>by(have k0:=hf.2.1;go_simp<;>with_reducible rfl)) ?_;simp only[PT];refine tQ [7,8,9,10] ?_;refine aG 11 rfl (by kernel_rfl) (by kernel_rfl) rfl rfl 0 rfl (by kernel_rfl) (.int .u8 zz) (fun w' hf=>by(have k0:=hf.2.2;go_simp<;>with_reducible rfl)) ?_;simp only[PT];refine tQ [12,13] ?_;refine fM 14 rfl (by kernel_rfl) (.agg ((dS kz cz).cells bo bQ).toArray) (by kernel_rfl) (fun w' _=>by first | kernel_rfl | (rw[<-dR];kernel_rfl)) ?_;try simp only[PT]
    refine tQ [15] ?_;refine fX 16 rfl (by kernel_rfl) (by kernel_rfl) rfl Tryz.fP _ Nd ?_;try simp only[PT]
    refine dM [17,22] (fun j hj=>?_);have hj:j=17\/j=22:=by simpa using hj
    rcases hj with rfl | rfl
    ·refine⟨⟨_,rfl,by kernel_rfl,fun K hK=>?_⟩⟩;go_simp;refine(BV kz cz _ _ _ l4 _ (xJ _ LD) (by omega)).mono ?_;rintro e w6 ⟨fj,BZ⟩;obtain⟨oc,v6,b6,rfl,UO,ke,h6⟩:∃(oc:Array Value)(v6:Value)(b6:Bool),e=.returned (.tuple #[.agg oc,v6,.bool b6])/\oc.size=30/\(∀u∈oc.toList,u.oneCell'=true)/\((b6=false/\cw fR true r=none)\/(b6=true/\∃(y:dE)(r2:List UInt8)(a2:Option Addr)(c2:Nat),oc=y.cells.toArray/\v6=.slice a2 r2.length c2/\cw fR true r=some (y.t,r2)/\zh (WD).heap.size w6 y/\∀U,ax U (some ⟨b2,o2,none⟩) r.length c' (bs r)->ax U a2 r2.length c2 (bs r2))):=by
      rcases BZ with⟨h1,oc,v6,rfl,h2,h3⟩ | ⟨y,r2,a2,c2,h1,rfl,h2,h3⟩
      ·exact⟨oc,v6,false,rfl,h2,h3,.inl ⟨rfl,hrt.trans h1⟩⟩
      exact⟨_,_,true,rfl,rfl,Tn.one _ _ _,.inr ⟨rfl,y,r2,a2,c2,rfl,rfl,hrt.trans h1,h2,fun U hU=>h3 U (VB U hU)⟩⟩
     replace h6:=af h6;replace UO:=af UO;replace ke:=af ke;clear BZ;have L6:=LD.trans (fj.mono LD.size);refine hK _ _ ⟨⟨fun _=>BC.out _ L6,trivial⟩,?_⟩;clear hK K;try simp only[PT]
     refine tQ [18,19,20,21] ?_;refine sQ 22 fun K hK=>?_;simp only[GO];go_simp;have L7:=L6.alloc L6.size (.cells i6 55);refine hK _ _ ⟨⟨fun _=>BC.out _ L7,trivial⟩,?_⟩;clear hK K;try simp only[PT]
     refine sQ 23 fun K hK=>?_;simp only[GO];refine wW 55 30 rfl w6.heap.size i6 oc rfl rfl (ar.new _ _ _) UO.out rfl ke.out fun w8 rT wV=>?_;have b68:Below w6.heap.size w6 w8:=((Below.refl w6.heap.size w6).alloc ah _).trans (wV.ag (n₀:=w6.heap.size) (by simp) (by simp));have Y9:=EH.trans (fj.mono EH.size);have b8:Below wx.heap.size wx w8:=Y9.trans (b68.mono Y9.size);refine hK _ _ ⟨⟨fun _=>BC.out _ (hQ.out.low.trans (b8.mono hQ.out.low.size)),trivial⟩,?_⟩;clear hK K;try simp only[PT]
     refine tQ [24,25] ?_;refine dQ (aL.out _ _ ?_);clear aL KQ;have hT9:Hid (TuQ r (some ⟨b2,o2,none⟩) c' wx w6.heap.size b6 v6 w8):=af ⟨b8,by
      rcases h6.out with h | ⟨h,y,r2,a2,c2,h1,h2,h3,h4,h5⟩
      ·exact .inl h
      exact .inr ⟨h,y,r2,a2,c2,by rw[<-h1];exact rT,h2,h3,(h4.mono EH.size).ag b68,h5⟩⟩
     go_wp2;go_meet
     case rel=>exact⟨_,_,rfl,rfl,hT9⟩
    refine⟨⟨_,rfl,by kernel_rfl,fun K hK=>?_⟩⟩;go_simp;have L7:=LD.alloc LD.size (.cells i6 55);have Z7:=ar.new WD i6 55;refine hK _ _ ⟨⟨fun _=>BC.out _ L7,trivial⟩,?_⟩;clear hK K;try simp only[PT]
    refine sQ 17 fun K hK=>?_;simp only[GO];go_simp;refine(BV kz cz _ _ _ l4 _ (xJ _ L7) (by omega)).mono ?_;rintro e w6 ⟨fj,BZ⟩;obtain⟨oc,v6,b6,rfl,UO,ke,h6⟩:∃(oc:Array Value)(v6:Value)(b6:Bool),e=.returned (.tuple #[.agg oc,v6,.bool b6])/\oc.size=30/\(∀u∈oc.toList,u.oneCell'=true)/\((b6=false/\cw fR true r=none)\/(b6=true/\∃(y:dE)(r2:List UInt8)(a2:Option Addr)(c2:Nat),oc=y.cells.toArray/\v6=.slice a2 r2.length c2/\cw fR true r=some (y.t,r2)/\zh (WD.alloc (.cells i6 55)).heap.size w6 y/\∀U,ax U (some ⟨b2,o2,none⟩) r.length c' (bs r)->ax U a2 r2.length c2 (bs r2))):=by
     rcases BZ with⟨h1,oc,v6,rfl,h2,h3⟩ | ⟨y,r2,a2,c2,h1,rfl,h2,h3⟩
     ·exact⟨oc,v6,false,rfl,h2,h3,.inl ⟨rfl,hrt.trans h1⟩⟩
     exact⟨_,_,true,rfl,rfl,Tn.one _ _ _,.inr ⟨rfl,y,r2,a2,c2,rfl,rfl,hrt.trans h1,h2,fun U hU=>h3 U (VB U hU)⟩⟩
    replace h6:=af h6;replace UO:=af UO;replace ke:=af ke;clear BZ;have L6:=L7.trans (fj.mono L7.size);refine hK _ _ ⟨⟨fun _=>BC.out _ L6,trivial⟩,?_⟩;clear hK K;try simp only[PT]
    refine tQ [18,19,20,21] ?_;refine sQ 23 fun K hK=>?_;simp only[GO];refine wW 55 30 rfl WD.heap.size i6 oc rfl rfl (Z7.ag fj) UO.out rfl ke.out fun w8 rT wV=>?_;have rj:Below wx.heap.size wx (WD.alloc (.cells i6 55)):=EH.alloc EH.size _;have Y9:=rj.trans (fj.mono rj.size);have b8:Below wx.heap.size wx w8:=Y9.trans (wV.ag Y9.size (by simp;exact EH.size));refine hK _ _ ⟨⟨fun _=>BC.out _ (hQ.out.low.trans (b8.mono hQ.out.low.size)),trivial⟩,?_⟩;clear hK K;try simp only[PT]
    refine tQ [24,25] ?_;refine dQ (aL.out _ _ ?_);clear aL KQ;have hT9:Hid (TuQ r (some ⟨b2,o2,none⟩) c' wx WD.heap.size b6 v6 w8):=af ⟨b8,by
     rcases h6.out with h | ⟨h,y,r2,a2,c2,h1,h2,h3,h4,h5⟩
     ·exact .inl h
     exact .inr ⟨h,y,r2,a2,c2,by rw[<-h1];exact rT,h2,h3,(h4.wrote wV (by simp)).mono rj.size,h5⟩⟩
    go_wp2;go_meet
    case rel=>exact⟨_,_,rfl,rfl,hT9⟩
   case rest=>
    obtain⟨tb,b,rfl,rfl,hT⟩:=hcut;obtain⟨wy,XE⟩:∃W,W=wc:=⟨_,rfl⟩;subst XE;have Ry:=af (hQ.out.res.ag hT.out.ag);have Sy:=af (hQ.out.sc.ag hT.out.ag);have Ly:=af (hQ.out.low.trans (hT.out.ag.mono hQ.out.low.size));cases b with
    | false=>
     have hnone:Hid (bh fR true l=none):=af (by
      rcases hT.out.out with⟨-,h⟩ | ⟨h, -⟩
      ·rw[PR,hall.2 hne.out h];rfl
      cases h)
     have hRy:=Ry.out;clear hQ hT;have gR:=hRy;have gL:=Ly.out;exact eW
    | true=>
     rcases hT.out.out with⟨h, -⟩ | ⟨-,y,r2,a2,c2,hbT,rO,LA,UQ,xf⟩
     ·cases h
     subst rO;obtain⟨yc,eE⟩:=ae y.cells;have sy:Hid (yc.length=30):=af (by rw[<-eE];rfl);have oy:Hid (∀u∈yc,u.oneCell'=true):=af (by rw[<-eE];exact Tn.one y.t y.h y.hp);have iy:Hid ((prog.info? 55).map (·.size)=some yc.toArray.size):=af (by rw[List.size_toArray,sy];kernel_rfl);rw[eE]at hbT;have af8:r2.length+3<=r.length:=lz LA;have adH:Hid ((wy.alloc (.cells yc.toArray 55)).ownsRow (sb+1) 55 30 (.slice av ts.length cv) ts.length (ts.flatMap dE.cells)):=af ((aB hQ.out.row hT.out.ag).alloc _);have sZ:Hid (sb∉blk (.slice av ts.length cv)):=af (fun hm=>by have:=(hQ.out.row.lt _ (bA.1 hm)).1;omega);have k8:wy.cell? ⟨sb,8,none⟩=some (.slice av ts.length cv):=Sy.cell 8;have S8:=af (Sy.alloc (.cells yc.toArray 55));have hn8:Hid (sb+1<=wy.heap.size):=af Sy.lt;have hR9:Hid (∀W,Below w.heap.size w W->ax W a2 r2.length c2 (bs r2)):=af fun W hb=>xf W (UM.out W hb);replace eE:=af eE;replace LA:=af LA;replace UQ:=af UQ;clear xf;go_wp2_with (first
      | (refine wL 55 rfl rfl hbT underlying55 ?_ rfl rfl iy.out)
      | (refine wpList_plain rfl fun _ hK=>dF _ rfl FO (by decide) (by decide) (.agg yc.toArray) rfl (by rw[show(Value.agg yc.toArray).cells=yc.toArray from rfl,List.size_toArray,sy]) (hK _ _ ?_))
      | (at_builtin;refine jM rfl _ _ rfl FO (by decide) (sb+1) (.slice av ts.length cv) ts.length (ts.flatMap dE.cells) rfl adH.out wy.heap.size yc 55 rfl (ar.new _ _ _) sy.out oy.out (by omega) (by omega) (by have:=hn8.out;simp;omega) ?_;intro v' w9 nA Cg FQ;obtain⟨a9,c9,rfl⟩:=aA nA;have cC:ak (blk (.slice av ts.length cv)) (wy.alloc (.cells yc.toArray 55)) w9:=ak.ep Cg (fun u hu=>bA.2 hu);have j9:=S8.aw cC sZ.out;replace nA:=af nA;replace Cg:=af Cg;replace FQ:=af FQ;replace cC:=af cC)
      | (refine aq rfl 28 30 _ _ rfl (fun w=>by kernel_rfl) sb 8 (zu cf z6 (.slice av ts.length cv)) (.slice a9 (ts.length+1) c9) rfl rfl j9 (by simp[zu]) rfl rfl ?_;intro FD jq ik))
     have HN:Hid (QI r0 w sb cf z6 (ts++[y]) r2 (.slice a9 (ts.length+1) c9) FD):=af (hQ.out.next (hT.out.ag.trans ((Below.refl wy.heap.size wy).alloc ah _ |>.mono hT.out.ag.size)) (UQ.ag (ai.alloc ah _)) LA.out (by rw[eE.out];exact nA.out) cC.out FQ.out ik jq);have HN:Hid (QI r0 w sb cf z6 (ts++[y]) r2 (.slice a9 (ts++[y]).length c9) FD):=af (by rw[List.length_append,List.length_singleton];exact HN.out);clear j9 jq ik hbT k8;try simp only[PT]
     go_roundw
     case rel=>exact⟨r2,a2,c2,ts++[y],a9,c9,rfl,hR9,HN,by rw[List.length_append,List.length_singleton];omega⟩
     case measure=>exact(show r2.length<r.length by omega)
end
section
attribute [local go_sem] Oper.semAt_some
def UR(l:List UInt8)(S:Sc)(z:Int):Prop:=
 (65536<l.length/\S=kR.sc/\z=3)\/(l.length<=65536/\(∀s,bh fR false l=some s->¬bZ s)/\S=kR.sc/\z=390)\/(l.length<=65536/\bh fR false l=some S/\bZ S/\z=0)
theorem Nf{l:List UInt8}{S S':Sc}{z z':Int}(h:UR l S z)(k:UR l S' z'):S=S'/\z=z':=by
 rcases h with⟨h1,h2,h3⟩ | ⟨h1,h2,h3,h4⟩ | ⟨h1,h2,h3,h4⟩<;>rcases k with⟨k1,k2,k3⟩ | ⟨k1,k2,k3,k4⟩ | ⟨k1,k2,k3,k4⟩
 ·exact⟨h2.trans k2.symm,h3.trans k3.symm⟩
 ·omega
 ·omega
 ·omega
 ·exact⟨h3.trans k3.symm,h4.trans k4.symm⟩
 ·exact absurd k3 (h2 _ k2)
 ·omega
 ·exact absurd h3 (k2 _ h2)
 rw[h2]at k2;exact⟨Option.some.inj k2,h4.trans k4.symm⟩
theorem A8.say{l:List UInt8}{w:World}{e:Ending}{w':World}(h:A8 fR l w e w'):Below w.heap.size w w'/\∃(s:lj)(z:Int),e=.returned (.tuple #[.agg s.cells.toArray,.int .i64 z])/\s.In w'/\UR l s.sc z:=by
 refine⟨h.ag,?_⟩;have hz:kR.In w':=⟨aW.nil w',fun x hx=>by cases hx⟩;rcases h.out with⟨h1,h2⟩ | ⟨h1,h2,h3⟩ | ⟨h1,s,h2,h3,h4,h5⟩
 ·exact⟨kR,3,h2,hz,.inl ⟨h1,rfl,rfl⟩⟩
 ·exact⟨kR,390,h3,hz,.inr (.inl ⟨h1,h2,rfl,rfl⟩)⟩
 exact⟨s,0,h4,h5,.inr (.inr ⟨h1,h2,h3,rfl⟩)⟩
theorem qW(a:Option Addr)(n c:Nat)(l:List UInt8)(w:World)(hrow:ax w a n c (bs l))(hT:TzAt w):Calls prog 3 #[.slice a n c] w (ab7 w):=by
 have hl:l.length=n:=by have:=hrow.len;rw[cV]at this;exact this
 have hmx:n<=9223372036854775807:=by have:=hrow.le;have:=hrow.max;unfold maxLen at this;omega
 have HR:=af hrow;replace hT:=af hT;have hl:=af hl;by_cases h7:70000<n
 ·have d7:decide (70000<(n:Int))=true:=decide_eq_true (by omega);clear hrow;go_enter func3,ntmps3;go_wp2_with (go_at_call 7;refine(yX _ hT.out).mono ?_;rintro e wk ⟨rfl,Qk⟩)
  go_ret;exact⟨rfl,Qk⟩
 have d7:decide (70000<(n:Int))=false:=decide_eq_false (by omega);have CP:=af (ED a n c l w hrow (by omega) hT.out);clear hrow;go_enter func3,ntmps3;go_wp2_with fail
 refine CP.mono ?_;intro e w1 hP;obtain⟨hb1,s,z,rfl,hs,hq⟩:=hP.say;clear hP;obtain⟨sv,eQ⟩:=ae s.cells.toArray;have VA:Hid ((prog.info? 30).map (·.size)=some sv.size):=af (by rw[<-eQ];exact(by kernel_rfl:(prog.info? 30).map (·.size)=some 9));have Tp:Hid (sv.size=9):=af (by rw[<-eQ];rfl);have aV:Hid (∀v∈sv.toList,v.oneCell'=true):=af (by rw[<-eQ];simp[lj.cells,Value.oneCell']);rw[eQ];have BN:=ar.new w1 kR.cells.toArray 30;replace eQ:=af eQ;replace hs:=af hs;replace hq:=af hq;go_upto_region 4 with(refine wS 30 9 rfl w1.heap.size _ sv rfl rfl BN Tp.out rfl aV.out ?_;intro w2 hw2 hr2);have Jy:Below w1.heap.size w1 w2:=(ai.alloc ah _).trans (hr2.ag (by simp) (by simp));have B2:=af (hb1.trans (Jy.mono hb1.size));have S2:=af (hs.ag Jy);have X2:=af hw2;have CR:=af (Jn a n c l w2 (HR.ag B2.out) (by omega));clear BN Jy hr2 hw2 hb1 hs CP;go_wp2_with fail;refine CR.mono ?_;intro e w3 hP;obtain⟨hb3,t,z',rfl,ht,hq'⟩:=hP.say;clear hP;obtain⟨hst,rfl⟩:=Nf hq.out hq';have hst:=af hst;obtain⟨tv,Cf⟩:=ae t.cells.toArray;have itv:Hid ((prog.info? 30).map (·.size)=some tv.size):=af (by rw[<-Cf];exact(by kernel_rfl:(prog.info? 30).map (·.size)=some 9));have adI:Hid (tv.size=9):=af (by rw[<-Cf];rfl);have Za:Hid (∀v∈tv.toList,v.oneCell'=true):=af (by rw[<-Cf];simp[lj.cells,Value.oneCell']);rw[Cf];have BN:=ar.new w3 kR.cells.toArray 30;replace Cf:=af Cf;have S3:=af (S2.ag hb3);have X3:=af (X2.ag hb3)
 have B3:=af (B2.trans (hb3.mono B2.size));replace ht:=af ht;clear hq' X2 S2;go_upto_region 5 with(refine wS 30 9 rfl w3.heap.size _ tv rfl rfl BN adI.out rfl Za.out ?_;intro w4 hw4 hr4);have Zb:Below w3.heap.size w3 w4:=(ai.alloc ah _).trans (hr4.ag (by simp) (by simp));have S4:=af (S3.ag Zb);have T4:=af (ht.ag Zb);have X4:=X3.ag Zb;have X4h:=af X4;have B4:=af (B3.trans (Zb.mono B3.size));have CS:=af (Lk s t w4 S4.out T4.out);rw[eQ.out,Cf.out]at CS;clear BN Zb hr4 ht S3 X3 hb3;go_wp2_with (first
  | (refine LG 30 rfl rfl X4 underlying30 rfl ?_ VA.out)
  | (refine LG 30 rfl rfl hw4 underlying30 rfl ?_ itv.out))
 refine CS.mono ?_;rintro e w5 ⟨sb,rfl,eD,eF⟩;obtain rfl:sb=true:=eD.2 hst.out;have B5:=af (B4.trans (eF.mono B4.size));have T5:=af (hT.ag B5.out);have S5:=af (S4.ag eF);have X5:=X4h.ag eF;clear eD X4 hw4 CS T4 hst eF;by_cases h0:z=0
 ·subst h0;obtain⟨zj,Pw,hrg⟩:l.length<=65536/\bh fR false l=some s.sc/\bZ s.sc:=by
   rcases hq.out with⟨-, -,h⟩ | ⟨-, -, -,h⟩ | ⟨h1,h2,h3, -⟩
   ·exact absurd h (by decide)
   ·exact absurd h (by decide)
   exact⟨h1,h2,h3⟩
  have wZ:=af (mj fR Pw);have CW:=af (MP s w5 S5.out T5.out (fun x hx h2=>fK (pL Pw x.t (by show x.t∈s.ts.map dE.t;exact List.mem_map_of_mem hx) h2)));rw[eQ.out]at CW;have zj:=af zj;have hrg:=af hrg;clear Pw hq;go_wp2_with (refine wL 30 rfl rfl X5 underlying30 ?_ rfl rfl VA.out);refine CW.mono ?_;rintro e w6 ⟨fj,hout⟩;obtain⟨v,rfl,how⟩:∃v,e=.returned (.tuple #[v,.int .i64 0])/\w6.ownsRow w5.heap.size 5 1 v l.length (bs l):=by
   rcases hout with⟨h1,h2,v,rfl,h3⟩ | ⟨h1,h2,rfl⟩ | ⟨h1,rfl⟩
   ·rw[wZ.out]at h3;exact⟨v,rfl,h3⟩
   ·rw[wZ.out]at h2;exact absurd zj.out h2
   exact absurd hrg.out h1
  rw[hl.out]at how;obtain⟨a6,c6,rfl,mL⟩:=ax.gK how;have B6:=af (B5.trans (fj.mono B5.size));have T6:=af (hT.ag B6.out);have c1:=dX mL;have c2:=dX (HR.ag B6.out);clear hout how mL fj X5 CW zj hrg wZ;obtain⟨lb,Ni⟩:=ae ((⟨l.toArray⟩:ByteArray):ByteArray);rw[Ni]at c1 c2;clear Ni;go_wp2_with (go_at_call 7;refine(yX _ T6.out).mono ?_;rintro e wk ⟨rfl,Qk⟩);go_ret;exact⟨rfl,B6.trans (Qk.mono B6.size)⟩
 have dz:(z !=0)=true:=by simpa using h0
 clear X5 hq;go_wp2_with (go_at_call 7;refine(yX _ T5.out).mono ?_;rintro e wk ⟨rfl,Qk⟩);go_ret;exact⟨rfl,B5.trans (Qk.mono B5.size)⟩
theorem walk_ScriptTurns(a:Option Addr)(n c:Nat)(l:List UInt8)(w:World)(hrow:ax w a n c (bs l))(hT:TzAt w):Calls prog 3 #[.slice a n c] w fun e w'=>e=.returned (.bool true)/\Below w.heap.size w w':=
 (qW a n c l w hrow hT).mono fun e w' h=>h.out
end
end Go.Proofs.YtkghejaimhoboaaGreatDoor
