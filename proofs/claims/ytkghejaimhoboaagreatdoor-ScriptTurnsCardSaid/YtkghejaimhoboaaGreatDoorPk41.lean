/- Parts of the proof of ScriptTurns. -/
import Derived.Test.YtkghejaimhoboaaGreatDoorPk27
import Derived.Test.YtkghejaimhoboaaGreatDoorPk37
set_option linter.unusedSimpArgs false
set_option linter.unusedVariables false
set_option maxRecDepth 100000
set_option maxHeartbeats 8000000
namespace Go.Proofs.YtkghejaimhoboaaGreatDoor
open Go.RowKit Go.Shelf Go.Proofs.Tryz
section
attribute [local go_sem] Oper.semAt_some
theorem Jk(s:lj)(w:World)(hs:s.In w)(hp:∀x∈s.ts,x.t.kind=2->yT x.t.pk):Calls prog 15 #[.agg s.cells.toArray] w (aD (bZ s.sc) w):=by
 obtain⟨R,hR⟩:=ae (bZ s.sc);have jf:Hid (R↔ot s.cf/\(2<=s.bI/\s.bI<=4096)/\s.ht.n<=2000/\∀x∈s.ts,eh x.t):=af (by
  rw[<-hR];unfold bZ;have e:s.sc.ts.length=s.ht.n:=by rw[<-hs.t.len];simp[lj.sc]
  rw[e];have e2:(∀t∈s.sc.ts,eh t)↔∀x∈s.ts,eh x.t:=by simp[lj.sc]
  rw[e2];exact Iff.rfl)
 rw[hR];clear hR;obtain⟨sv,eQ⟩:=ae s.cells.toArray;obtain⟨pz,Vs⟩:=ae s.bI;obtain⟨n,hn⟩:=ae s.ht.n;rw[Vs,hn]at jf;have HS:=af hs;have HP:=af hp;have kc:Hid (∀W,ar W w.heap.size sv 30->W.cell? ⟨w.heap.size,7,none⟩=some (.int .i64 pz)/\W.cell? ⟨w.heap.size,8,none⟩=some (.slice s.ht.a n s.ht.c)):=af fun W hb=>by rw[hb.cell,hb.cell,<-eQ,<-Vs,<-hn];exact⟨rfl,rfl⟩
 have hB:ar (w.alloc (.cells sv 30)) w.heap.size sv 30:=ar.new _ _ _;have hm:(w.alloc (.cells sv 30)).rangeAt w.heap.size 0 s.cf.cl:=hB.mid [] s.cf.cl [.int .i64 s.bI,.slice s.ht.a s.ht.n s.ht.c] (by rw[<-eQ];rfl);have b0:Hid (Below w.heap.size w (w.alloc (.cells sv 30))):=af (ai.alloc ah _);have CC:=af (El s.cf (w.alloc (.cells sv 30)));have hmx:n<=9223372036854775807:=by have:=hs.t.le;have:=hs.t.max;unfold maxLen at this;omega
 rw[eQ];replace eQ:=af eQ;replace Vs:=af Vs;have hlen:Hid (s.ts.length=n):=af (hs.t.len.trans hn);replace hn:=af hn;have XF:=af hB;clear hs hp hB;go_enter func15,ntmps15;go_wp2_with (refine sF 27 rfl rfl hm underlying27 ?_)
 refine CC.mono ?_;rintro e w1 ⟨b,rfl,hb,hb1⟩;have B1:=af (b0.trans (hb1.mono b0.size));have X1:=af (XF.ag hb1);obtain⟨k7,k8⟩:=kc _ X1.out;replace hb:=af hb;clear hm CC XF b0 hb1;cases b with
 |false=>
  go_wp2_with fail
  go_ret;exact aD.no (fun h9=>by have:=hb.2 (jf.1 h9).1;cases this) B1.out
 | true=>
  replace jf:Hid (R↔(2<=pz/\pz<=4096)/\n<=2000/\∀x∈s.ts,eh x.t):=af (by rw[jf.out];exact⟨fun h=>h.2,fun h=>⟨hb.1 rfl,h⟩⟩);clear hb;by_cases q1:pz<2
  ·have d1:decide (pz<2)=true:=decide_eq_true q1;go_wp2_with fail
   go_ret;exact aD.no (fun h9=>by have:=jf.1 h9;omega) B1.out
  have d1:decide (pz<2)=false:=decide_eq_false q1;by_cases q2:4096<pz
  ·have d2:decide (4096<pz)=true:=decide_eq_true q2;go_wp2_with fail
   go_ret;exact aD.no (fun h9=>by have:=jf.1 h9;omega) B1.out
  have d2:decide (4096<pz)=false:=decide_eq_false q2;by_cases q3:2000<n
  ·have d3:decide (2000<(n:Int))=true:=decide_eq_true (by omega);go_wp2_with fail
   go_ret;exact aD.no (fun h9=>by have:=jf.1 h9;omega) B1.out
  have d3:decide (2000<(n:Int))=false:=decide_eq_false (by omega);replace jf:Hid (R↔∀x∈s.ts,eh x.t):=af (by rw[jf.out];exact⟨fun h=>h.2.2,fun h=>⟨by omega,by omega,h⟩⟩);go_wp2_with fail
  clear k7 k8 d1 d2 d3 q1 q2;go_loopw [3] (fun i wr=>∃j:Nat,j<=n/\i=.int .i64 j/\Hid (Below w.heap.size w wr/\ar wr w.heap.size sv 30)/\Hid (∀x∈s.ts.take j,eh x.t)) (fun i _=>n-(intOf i).toNat)
  case atStart=>exact⟨0,Nat.zero_le _,by go_num,af ⟨B1.out,X1.out⟩,af (by simp)⟩
  case round=>
   obtain⟨j,hj,rfl,hW,hall⟩:=hrel;obtain⟨wx,hwx⟩:∃W,W=wr:=⟨_,rfl⟩;subst hwx;have k8:=(kc _ hW.out.2).2;by_cases JY:j<n
   ·obtain⟨x,hx⟩:∃x,s.ts[j]?=some x:=⟨_,List.getElem?_eq_getElem (by rw[hlen];exact JY)⟩;obtain⟨g,off,ha,hrg⟩:=HS.t.range hx;have hr1:=hrg wx hW.out.1;rw[ha]at k8;have CT:=af (MT x wx ((HS.each x (List.mem_of_getElem? hx)).ag hW.out.1) (HP x (List.mem_of_getElem? hx)));obtain⟨xc,cR⟩:=ae x.cells;rw[cR]at CT hr1;have ixc:Hid ((prog.info? 55).map (·.size)=some xc.length):=af (by rw[<-cR];exact(by kernel_rfl:(prog.info? 55).map (·.size)=some 30));have hx:=af hx;clear hrg cR ha;go_wp2_with (refine sF 55 rfl rfl hr1 underlying55 ?_ rfl rfl ixc.out);refine CT.mono ?_;rintro e w5 ⟨b,rfl,hb,eF⟩;have W5:Hid (Below w.heap.size w w5/\ar w5 w.heap.size sv 30):=af ⟨hW.out.1.trans (eF.mono hW.out.1.size),hW.out.2.ag eF⟩;replace hb:=af hb;clear k8 hr1 eF CT;cases b with
    |false=>
     go_wp2_with fail
     go_ret;exact aD.no (fun h9=>by have:=hb.2 (jf.1 h9 x (List.mem_of_getElem? hx.out));cases this) W5.1
    | true=>
     have hT:=af (hb.1 rfl);go_wp2_with fail
     refine⟨⟨j+1,by omega,by go_num,W5,af fun u hu=>?_⟩,by simp[intOf];omega⟩;rw[List.take_add_one,hx.out]at hu;rcases List.mem_append.1 hu with hu | hu
     ·exact hall.out u hu
     simp at hu;subst hu;exact hT.out
   obtain rfl:j=n:=by omega
   have iK:Hid (∀x∈s.ts,eh x.t):=af (by
    have h9:=hall.out
    rwa [List.take_of_length_le (by rw[hlen];exact Nat.le_refl _)]at h9)
   go_wp2_with fail
   go_ret;exact aD.yes (jf.2 iK.out) hW.out.1
end
end Go.Proofs.YtkghejaimhoboaaGreatDoor
