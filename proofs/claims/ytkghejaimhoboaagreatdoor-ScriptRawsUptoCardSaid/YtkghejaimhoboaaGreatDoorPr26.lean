/- Parts of the proof of ScriptRaws. -/
import Derived.Test.YtkghejaimhoboaaGreatDoorPr21
set_option linter.unusedSimpArgs false
set_option linter.unusedVariables false
set_option maxRecDepth 100000
set_option maxHeartbeats 8000000
namespace Go.Proofs.YtkghejaimhoboaaGreatDoor
open Go.RowKit Go.Shelf Go.Proofs.Tryz
section
attribute [local go_sem] Oper.semAt_some
end
theorem rTxt_lt{l s r:List UInt8}(h:rTxt l=some (s,r)):s.length<=2000000:=by have:=(rTxt_some h).2;omega
theorem rAll_all{α:Type}{take:List UInt8->Option (α×List UInt8)}{P:α->Prop}(h:∀l x r,take l=some (x,r)->P x):∀(n:Nat)(l:List UInt8)(xs:List α),rAll take n l=some xs->∀x∈xs,P x
 |0,l,xs,e=>by
  unfold rAll at e;split at e
  ·cases e;simp
  cases e
 | n+1,l,xs,e=>by
  unfold rAll at e;split at e
  ·cases e;simp
  obtain⟨x,h1,e⟩:=Option.bind_eq_some_iff.1 e;obtain⟨r,h2,e⟩:=Option.bind_eq_some_iff.1 e;cases e;intro y hy;rcases List.mem_cons.1 hy with rfl | hy
  ·exact h l x.1 x.2 h1
  exact rAll_all h n x.2 r h2 y hy
theorem rOpt_txt{b:Bool}{l s r:List UInt8}(h:rOpt b [] rTxt l=some (s,r)):s.length<=2000000:=by
 unfold rOpt at h;cases b with
 | true=>exact rTxt_lt h
 | false=>cases h;simp
theorem rOpt_two{b:Bool}{l:List UInt8}{s:List UInt8×List UInt8}{r:List UInt8}(h:rOpt b ([],[]) rTwo l=some (s,r)):s.1.length<=2000000/\s.2.length<=2000000:=by
 unfold rOpt at h;cases b with
 |true=>unfold rTwo at h;simp only[if_true]at h;obtain⟨x,h1,h⟩:=Option.bind_eq_some_iff.1 h;obtain⟨y,h2,h⟩:=Option.bind_eq_some_iff.1 h;cases h;exact⟨rTxt_lt h1,rTxt_lt h2⟩
 | false=>cases h;simp
theorem PkS.zero(k:Int):PkS (zPk k):=⟨by simp[zPk],by simp[zPk],by simp[zPk],by simp[zPk,noWill],by simp[zPk,noWill],by simp[zPk],by simp[zPk],by simp[zPk],by simp[zPk]⟩
theorem readC_small{l r:List UInt8}{p:Pk}(h:readC l=some (p,r)):PkS p:=by
 unfold readC at h;obtain⟨a,ha,h⟩:=Option.bind_eq_some_iff.1 h;split at h
 ·cases h
 obtain⟨v,hv,h⟩:=Option.bind_eq_some_iff.1 h;split at h
 ·cases h
 obtain⟨f,hf,h⟩:=Option.bind_eq_some_iff.1 h;obtain⟨k,hk,h⟩:=Option.bind_eq_some_iff.1 h;obtain⟨c,hc,h⟩:=Option.bind_eq_some_iff.1 h;obtain⟨wl,hw,h⟩:=Option.bind_eq_some_iff.1 h;obtain⟨u,hu,h⟩:=Option.bind_eq_some_iff.1 h;obtain⟨s,hs,h⟩:=Option.bind_eq_some_iff.1 h;dsimp only at h;split at h
 ·cases h;have h2:=rOpt_two (s:=wl.1) (r:=wl.2) hw;exact⟨by simp[zPk],by simp[zPk],rTxt_lt (s:=c.1) (r:=c.2) hc,h2.1,h2.2,rOpt_txt (s:=u.1) (r:=u.2) hu,rOpt_txt (s:=s.1) (r:=s.2) hs,by simp[zPk],by simp[zPk]⟩
 cases h
theorem readP_small{k:Int}{f:Nat}{l r:List UInt8}{p:Pk}(h:readP k f l=some (p,r))(hl:l.length<=65536):PkS p/\(k=3->0<=p.qos/\p.qos<=3):=by
 unfold readP at h;split at h
 ·exact⟨readC_small h,fun e=>by omega⟩
 split at h
 ·unfold readA at h;obtain⟨a,ha,h⟩:=Option.bind_eq_some_iff.1 h;split at h
  ·cases h
  obtain⟨c,hc,h⟩:=Option.bind_eq_some_iff.1 h;cases h;exact⟨⟨by simp[zPk],by simp[zPk],by simp[zPk],by simp[zPk,noWill],by simp[zPk,noWill],by simp[zPk],by simp[zPk],by simp[zPk],by simp[zPk]⟩,fun e=>by omega⟩
 split at h
 ·unfold readPub at h;obtain⟨t,ht,h⟩:=Option.bind_eq_some_iff.1 h;obtain⟨i,hi,h⟩:=Option.bind_eq_some_iff.1 h;cases h;have h1:=(rTxt_some (s:=t.1) (r:=t.2) ht).1;have h2:t.2.length<=l.length:=by rw[h1,List.length_append];omega
  have h3:i.2.length<=t.2.length:=by
   unfold rOpt at hi;split at hi
   ·have:=(rNum_some (n:=i.1) (r:=i.2) hi).1;rw[this,List.length_append];omega
   cases hi;simp
  exact⟨⟨rTxt_lt (s:=t.1) (r:=t.2) ht,by show i.2.length<=_;omega,by simp[zPk],by simp[zPk,noWill],by simp[zPk,noWill],by simp[zPk],by simp[zPk],by simp[zPk],by simp[zPk]⟩,fun _=>by dsimp only;omega⟩
 split at h
 ·unfold readL8 at h;obtain⟨i,hi,h⟩:=Option.bind_eq_some_iff.1 h;obtain⟨w,hw,h⟩:=Option.bind_eq_some_iff.1 h;cases h;have:=rAll_all (P:=fun x:WantV=>x.filter.length<=2000000) (fun l x r h=>by unfold rWant at h;obtain⟨t,ht,h⟩:=Option.bind_eq_some_iff.1 h;obtain⟨q,hq,h⟩:=Option.bind_eq_some_iff.1 h;cases h;exact rTxt_lt (s:=t.1) (r:=t.2) ht) _ _ _ hw
  exact⟨⟨by simp[zPk],by simp[zPk],by simp[zPk],by simp[zPk,noWill],by simp[zPk,noWill],by simp[zPk],by simp[zPk],this,by simp[zPk]⟩,fun e=>by omega⟩
 split at h
 ·unfold readL9 at h;obtain⟨i,hi,h⟩:=Option.bind_eq_some_iff.1 h;obtain⟨w,hw,h⟩:=Option.bind_eq_some_iff.1 h;cases h;exact⟨⟨by simp[zPk],by simp[zPk],by simp[zPk],by simp[zPk,noWill],by simp[zPk,noWill],by simp[zPk],by simp[zPk],by simp[zPk],by simp[zPk]⟩,fun e=>by omega⟩
 split at h
 ·unfold readL10 at h;obtain⟨i,hi,h⟩:=Option.bind_eq_some_iff.1 h;obtain⟨w,hw,h⟩:=Option.bind_eq_some_iff.1 h;cases h;have:=rAll_all (P:=fun x:List UInt8=>x.length<=2000000) (fun l x r h=>rTxt_lt h) _ _ _ hw;exact⟨⟨by simp[zPk],by simp[zPk],by simp[zPk],by simp[zPk,noWill],by simp[zPk,noWill],by simp[zPk],by simp[zPk],by simp[zPk],this⟩,fun e=>by omega⟩
 split at h
 ·unfold readI at h;obtain⟨i,hi,h⟩:=Option.bind_eq_some_iff.1 h;cases h;exact⟨⟨by simp[zPk],by simp[zPk],by simp[zPk],by simp[zPk,noWill],by simp[zPk,noWill],by simp[zPk],by simp[zPk],by simp[zPk],by simp[zPk]⟩,fun e=>by omega⟩
 cases h;exact⟨PkS.zero k,fun e=>by omega⟩
theorem and_low15(f:Nat)(hf:f<256):bits .and .u8 ((f:Nat):Int) 15=((f%16:Nat):Int):=by
 have:∀f:Fin 256,bits .and .u8 ((f:Nat):Int) 15=((f.1%16:Nat):Int):=by decide+kernel
 exact this ⟨f,hf⟩
theorem rightP_small{p:Pk}(h:rightP p):PkS p:=by
 obtain⟨hm,ha⟩:=h;unfold mayP at hm;unfold aloneP at ha;by_cases k1:p.kind=1
 ·rw[if_pos k1]at hm ha;obtain⟨a1,a2,a3,a4,a5⟩:=mayC_parts hm;have h1:=saidN_len a1;have t1:p.will.topic.length<=2000000:=by
   rcases a3 with⟨-,e⟩ | ⟨-,e, -⟩
   ·rw[e];decide
   have:=nameR_len e;omega
  have t2:p.will.body.length<=2000000:=by
   rcases a3 with⟨-,e⟩ | ⟨-, -,e, -⟩
   ·rw[e];decide
   omega
  have t3:p.user.length<=2000000:=by
   rcases a4 with⟨-,e⟩ | ⟨-,e⟩
   ·have:=saidN_len e;omega
   rw[e];decide
  have t4:p.pass.length<=2000000:=by
   rcases a5 with⟨-,e⟩ | ⟨-,e⟩
   ·omega
   rw[e];decide
  have e1:p.topic=[]:=(congrArg Pk.topic ha).symm;have e2:p.body=[]:=(congrArg Pk.body ha).symm;have e3:p.wants=[]:=(congrArg Pk.wants ha).symm;have e4:p.filters=[]:=(congrArg Pk.filters ha).symm;exact⟨by rw[e1];simp,by rw[e2];simp,by omega,t1,t2,t3,t4,by rw[e3];simp,by rw[e4];simp⟩
 rw[if_neg k1]at hm ha;have z:∀q:Pk,q=p->q.client=[]->q.will=noWill->q.user=[]->q.pass=[]->p.client.length<=2000000/\p.will.topic.length<=2000000/\p.will.body.length<=2000000/\p.user.length<=2000000/\p.pass.length<=2000000:=by rintro q rfl a b c d;rw[a,b,c,d];decide
 have y:∀q:Pk,q=p->q.topic=[]->q.body=[]->p.topic.length<=2000000/\p.body.length<=2000000:=by rintro q rfl a b;rw[a,b];decide
 have x:∀q:Pk,q=p->q.wants=[]->∀x∈p.wants,x.filter.length<=2000000:=by rintro q rfl a;rw[a];simp
 have v:∀q:Pk,q=p->q.filters=[]->∀x∈p.filters,x.length<=2000000:=by rintro q rfl a;rw[a];simp
 by_cases k2:p.kind=2
 ·rw[if_pos k2]at ha;obtain⟨b1,b2,b3,b4,b5⟩:=z _ ha rfl rfl rfl rfl;obtain⟨c1,c2⟩:=y _ ha rfl rfl;exact⟨c1,c2,b1,b2,b3,b4,b5,x _ ha rfl,v _ ha rfl⟩
 rw[if_neg k2]at hm ha;by_cases k3:p.kind=3
 ·rw[if_pos k3]at hm ha;obtain⟨b1,b2,b3,b4,b5⟩:=z _ ha rfl rfl rfl rfl;unfold mayPub at hm;rw[Bool.and_eq_true,Bool.and_eq_true,Bool.and_eq_true]at hm;have:=nameR_len hm.1.1.1;have:=of_decide_eq_true hm.1.1.2;exact⟨by omega,by omega,b1,b2,b3,b4,b5,x _ ha rfl,v _ ha rfl⟩
 rw[if_neg k3]at hm ha;by_cases k8:p.kind=8
 ·rw[if_pos k8]at hm ha;obtain⟨b1,b2,b3,b4,b5⟩:=z _ ha rfl rfl rfl rfl;obtain⟨c1,c2⟩:=y _ ha rfl rfl;rw[Bool.and_eq_true]at hm;refine⟨c1,c2,b1,b2,b3,b4,b5,fun t ht=>?_,v _ ha rfl⟩;have h2:=fitL_all hm.2 t ht;unfold mayWant at h2;rw[Bool.and_eq_true]at h2;have:=filterR_len h2.1;omega
 rw[if_neg k8]at hm ha;by_cases k9:p.kind=9
 ·rw[if_pos k9]at ha;obtain⟨b1,b2,b3,b4,b5⟩:=z _ ha rfl rfl rfl rfl;obtain⟨c1,c2⟩:=y _ ha rfl rfl;exact⟨c1,c2,b1,b2,b3,b4,b5,x _ ha rfl,v _ ha rfl⟩
 rw[if_neg k9]at hm ha;by_cases k10:p.kind=10
 ·rw[if_pos k10]at hm ha;obtain⟨b1,b2,b3,b4,b5⟩:=z _ ha rfl rfl rfl rfl;obtain⟨c1,c2⟩:=y _ ha rfl rfl;rw[Bool.and_eq_true]at hm;refine⟨c1,c2,b1,b2,b3,b4,b5,x _ ha rfl,fun t ht=>?_⟩;have:=filterR_len (fitL_all hm.2 t ht);omega
 rw[if_neg k10]at ha;split at ha
 all_goals
  obtain⟨b1,b2,b3,b4,b5⟩:=z _ ha rfl rfl rfl rfl;obtain⟨c1,c2⟩:=y _ ha rfl rfl;exact⟨c1,c2,b1,b2,b3,b4,b5,x _ ha rfl,v _ ha rfl⟩
theorem rightT_iff{t:Tn}:rightT t↔(1<=t.kind/\t.kind<=8)/\aloneT t=t/\(0<=t.conn/\t.conn<=65535)/\t.bytes.length<=10000/\t.picks.length<=255/\(0<=t.arm/\t.arm<=2)/\(-1<=t.n/\t.n<=65534)/\(∀z∈t.picks,0<=z/\z<=255)/\(t.kind=2->rightP t.pk):=by
 constructor
 ·intro h;have hk:=rightT_kind h;have hc:=rightT_conn h;obtain⟨hm,ha⟩:=h;refine⟨hk,ha,hc,?_⟩;unfold mayT at hm;unfold aloneT at ha;by_cases k2:t.kind=2
  ·rw[if_pos k2]at hm ha;have e1:t.bytes=[]:=(congrArg Tn.bytes ha).symm;have e2:t.picks=[]:=(congrArg Tn.picks ha).symm;have e3:t.arm=0:=(congrArg Tn.arm ha).symm;have e4:t.n=0:=(congrArg Tn.n ha).symm;rw[e1,e2,e3,e4];exact⟨by simp,by simp,by decide,by decide,by simp,fun _=>hm.2⟩
  rw[if_neg k2]at hm ha;by_cases k3:t.kind=3
  ·rw[if_pos k3]at hm ha;have e2:t.picks=[]:=(congrArg Tn.picks ha).symm;have e3:t.arm=0:=(congrArg Tn.arm ha).symm;have e4:t.n=0:=(congrArg Tn.n ha).symm;rw[e2,e3,e4];exact⟨hm.2,by simp,by decide,by decide,by simp,fun e=>absurd e k2⟩
  rw[if_neg k3]at hm ha;by_cases k7:t.kind=7
  ·rw[if_pos k7]at hm ha;have e1:t.bytes=[]:=(congrArg Tn.bytes ha).symm;have e2:t.picks=[]:=(congrArg Tn.picks ha).symm;rw[e1,e2];exact⟨by simp,by simp,hm.1,by omega,by simp,fun e=>absurd e k2⟩
  rw[if_neg k7]at hm ha;by_cases k8:t.kind=8
  ·rw[if_pos k8]at hm ha;have e1:t.bytes=[]:=(congrArg Tn.bytes ha).symm;have e3:t.arm=0:=(congrArg Tn.arm ha).symm;have e4:t.n=0:=(congrArg Tn.n ha).symm;rw[e1,e3,e4];exact⟨by simp,hm.1,by decide,by decide,hm.2,fun e=>absurd e k2⟩
  rw[if_neg k8]at hm ha;have e:t.bytes=[]/\t.picks=[]/\t.arm=0/\t.n=0:=by
   split at ha
   ·exact⟨(congrArg Tn.bytes ha).symm,(congrArg Tn.picks ha).symm,(congrArg Tn.arm ha).symm,(congrArg Tn.n ha).symm⟩
   exact⟨(congrArg Tn.bytes ha).symm,(congrArg Tn.picks ha).symm,(congrArg Tn.arm ha).symm,(congrArg Tn.n ha).symm⟩
  obtain⟨e1,e2,e3,e4⟩:=e;rw[e1,e2,e3,e4];exact⟨by simp,by simp,by decide,by decide,by simp,fun e=>absurd e k2⟩
 rintro⟨hk,ha,hc,hb,hp,har,hn,hz,hr⟩;refine⟨?_,ha⟩;unfold mayT;by_cases k2:t.kind=2
 ·rw[if_pos k2];exact⟨hc,hr k2⟩
 rw[if_neg k2];by_cases k3:t.kind=3
 ·rw[if_pos k3];exact⟨hc,hb⟩
 rw[if_neg k3];by_cases k7:t.kind=7
 ·rw[if_pos k7];exact⟨har,by omega⟩
 rw[if_neg k7];by_cases k8:t.kind=8
 ·rw[if_pos k8];exact⟨hp,hz⟩
 rw[if_neg k8];exact⟨by omega,hc⟩
theorem rTurn_pk{u:Bool}{l r:List UInt8}{t:Tn}(h:rTurn pkC u l=some (t,r))(hk:t.kind=2):rightP t.pk:=by
 unfold rTurn at h;obtain⟨k,h1,h⟩:=Option.bind_eq_some_iff.1 h;obtain⟨c,h2,h⟩:=Option.bind_eq_some_iff.1 h;have hkk:∀(c:Int),({zTn (k.1:Int)with conn:=c}:Tn).kind=(k.1:Int):=fun _=>rfl;by_cases k2:(k.1:Int)=2
 ·rw[rPart_2 ((hkk _).trans k2)]at h;obtain⟨s,h3,h⟩:=Option.bind_eq_some_iff.1 h;obtain⟨p,h4,h⟩:=Option.bind_eq_some_iff.1 h;cases h;exact((pkC.iff _ _).1 h4).1
 exfalso;have e:t.kind=(k.1:Int):=by
  unfold rPart at h;rw[if_neg (by exact k2)]at h;split at h
  ·obtain⟨s,h3,h⟩:=Option.bind_eq_some_iff.1 h;cases h;rfl
  split at h
  ·obtain⟨s,h3,h⟩:=Option.bind_eq_some_iff.1 h;obtain⟨s2,h4,h⟩:=Option.bind_eq_some_iff.1 h;cases h;rfl
  split at h
  ·obtain⟨s,h3,h⟩:=Option.bind_eq_some_iff.1 h;obtain⟨s2,h4,h⟩:=Option.bind_eq_some_iff.1 h;cases h;rfl
  split at h
  ·cases h;rfl
  cases h
 omega
theorem rScript_pk{u:Bool}{l:List UInt8}{s:Sc}(h:rScript pkC u l=some s):∀t∈s.ts,t.kind=2->rightP t.pk:=by
 unfold rScript at h;obtain⟨x,h1,h⟩:=Option.bind_eq_some_iff.1 h;obtain⟨y,h2,h⟩:=Option.bind_eq_some_iff.1 h;obtain⟨ts,h3,h⟩:=Option.bind_eq_some_iff.1 h;split at h
 ·cases h;exact rAll_all (P:=fun t:Tn=>t.kind=2->rightP t.pk) (fun l x r h=>rTurn_pk h) _ _ _ h3
 cases h
end Go.Proofs.YtkghejaimhoboaaGreatDoor
