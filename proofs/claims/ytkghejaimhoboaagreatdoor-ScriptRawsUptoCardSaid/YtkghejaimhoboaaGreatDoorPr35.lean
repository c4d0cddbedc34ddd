/- Parts of the proof of ScriptRaws. -/
import Derived.Test.YtkghejaimhoboaaGreatDoorPr32
import Derived.Test.YtkghejaimhoboaaGreatDoorPr31
set_option linter.unusedSimpArgs false
set_option linter.unusedVariables false
set_option maxRecDepth 100000
set_option maxHeartbeats 8000000
namespace Go.Proofs.YtkghejaimhoboaaGreatDoor
open Go.RowKit Go.Shelf Go.Proofs.Tryz
section
attribute [local go_sem] Oper.semAt_some
theorem flat_take_le{α:Type}(enc:α->List UInt8)(xs:List α)(j:Nat):((xs.take j).flatMap enc).length<=(xs.flatMap enc).length:=by
 conv=>rhs;rw[<-List.take_append_drop j xs,List.flatMap_append,List.length_append]
 omega
theorem pk_writeFil(p:Pk)(h:H3){w:World}{F:List Nat}{q:Nat}{l:List UInt8}(hW:Wr w F q l)(hin:LsN sCl 1 w h.f p.filters F)(hn:p.filters.length<=1000)(hx:∀x∈p.filters,x.length<=65535)(hl:l.length+(p.filters.flatMap (txtB)).length<=65536):
  Calls prog 153 #[.pointer (some ⟨q,0,none⟩),.agg (p.cells h).toArray] w (PutR F q l (p.filters.flatMap (txtB)) w):=by
 obtain⟨pc,hpc⟩:=gen_of ((p.cells h).toArray);obtain⟨W0,hW0⟩:=gen_of (w.alloc (.cells pc 52));have hb0:Below w.heap.size w W0:=by rw[<-hW0];exact bel_refl.alloc nat_le_rfl _
 have P0:Blk W0 w.heap.size pc 52:=by rw[<-hW0];exact Blk.new _ _ _
 have S0:=Stp.below (F:=F) hb0;have HW0:=hW.below hb0;have hF:∀x∈F,x<w.heap.size:=hW.lt;rw[hpc];obtain⟨xs,hxs⟩:=gen_of p.filters;obtain⟨n,hhn⟩:=gen_of h.f.n;have k7:W0.cell? ⟨w.heap.size,23,none⟩=some (.slice h.f.a n h.f.c):=by rw[P0.cell,<-hpc,<-hhn];rfl
 rw[hxs]at hin hn hx hl ⊢;have HL:Hid (xs.length=n):=hid (by rw[<-hhn];exact hin.at'.len);have hn:n<=1000:=by rw[<-HL];exact hn
 have HV:=hid hin;have hx:=hid hx;have hl:=hid hl;have hlt:=hid hF;replace P0:=hid P0;have HW0:=hid HW0;have S0:=hid S0;have hB0:=hid hb0;obtain⟨aa,haa⟩:=gen_of h.f.a;obtain⟨cc,hcc⟩:=gen_of h.f.c;rw[haa,hcc]at k7;have haa:=hid haa;clear hpc hF hin hxs hhn hW hcc hb0;go_enter func153,ntmps153;go_wp2_with fail
 go_loopw [9] (fun i wr=>∃(j:Nat)(F1:List Nat),i=.int .i64 j/\j<=n/\Hid (Wr wr F1 q (l++(xs.take j).flatMap (txtB)))/\Hid (Stp F F1 w wr)) (fun i _=>n-(intOf i).toNat)
 case atStart=>exact⟨0,F,by go_num,Nat.zero_le _,by simpa using HW0,S0⟩
 case round=>
  obtain⟨j,F1,rfl,hj,hWr,hS⟩:=hrel;by_cases hjn:j<n
  ·obtain⟨x,hxj⟩:∃x,xs[j]?=some x:=⟨_,List.getElem?_eq_getElem (by rw[HL];exact hjn)⟩;obtain⟨b,off,ha,hbl,hrg⟩:=HV.at'.at' j x hxj;have hblk:wr.heap[b]?=w.heap[b]?:=hS.out.wrote.block b hbl (HV.off (List.ne_nil_of_mem (List.mem_of_getElem? hxj)) _ ha);have hgood:=hid (hx x (List.mem_of_getElem? hxj));have hsn:Hid ((xs.take (j+1)).flatMap (txtB)=(xs.take j).flatMap (txtB)++(txtB) x):=hid (by rw[List.take_add_one,hxj,List.flatMap_append];simp)
   have hfit:Hid ((l++(xs.take j).flatMap (txtB)).length+((txtB) x).length<=65536):=hid (by have h1:=flat_take_le (txtB) xs (j+1);rw[hsn,List.length_append]at h1;have h2:=hl.out;rw[List.length_append];omega)
   rw[haa.out]at ha;have hcell:wr.cell? ⟨b,off+j,none⟩=some (.string ⟨x.toArray⟩):=by have h1:=hrg 0 (.string ⟨x.toArray⟩) rfl;unfold World.cell? at h1 ⊢;rw[hblk];simpa using h1
   subst ha;clear hrg hbl hblk hxj;have C1:=hid (wT hWr.out x hgood.out (by have:=hfit.out;rw[txtB_len]at this;omega));go_wp2_with fail
   refine C1.mono ?_;rintro e w1 ⟨F2,rfl,hw1,hs1⟩;have HW1:Hid (Wr w1 F2 q (l++(xs.take (j+1)).flatMap (txtB))):=hid (by rw[hsn,<-List.append_assoc];exact hw1);have HS1:=hid (hS.out.trans hs1);clear hw1 hs1;go_wp2_with fail;go_roundw
   case rel=>exact⟨j+1,F2,by go_num,by omega,HW1,HS1⟩
   case measure=>simp[intOf];omega
  obtain rfl:j=n:=by omega
  rw[List.take_of_length_le (by rw[HL];exact Nat.le_refl _)]at hWr;have H:=hid (show PutR F q l (xs.flatMap (txtB)) w (.returned (.tuple #[])) wr from⟨F1,rfl,hWr.out,hS.out⟩);clear hWr;go_wp2_with fail
  go_end0
  exact H.out
theorem pk_writeCod(p:Pk)(h:H3){w:World}{F:List Nat}{q:Nat}{l:List UInt8}(hW:Wr w F q l)(hin:LsN iCl 1 w h.c p.codes F)(hn:p.codes.length<=1000)(hx:∀x∈p.codes,0<=x/\x<256)(hl:l.length+(p.codes.flatMap (fun c=>numB 1 c.toNat)).length<=65536):
  Calls prog 146 #[.pointer (some ⟨q,0,none⟩),.agg (p.cells h).toArray] w (PutR F q l (p.codes.flatMap (fun c=>numB 1 c.toNat)) w):=by
 obtain⟨pc,hpc⟩:=gen_of ((p.cells h).toArray);obtain⟨W0,hW0⟩:=gen_of (w.alloc (.cells pc 52));have hb0:Below w.heap.size w W0:=by rw[<-hW0];exact bel_refl.alloc nat_le_rfl _
 have P0:Blk W0 w.heap.size pc 52:=by rw[<-hW0];exact Blk.new _ _ _
 have S0:=Stp.below (F:=F) hb0;have HW0:=hW.below hb0;have hF:∀x∈F,x<w.heap.size:=hW.lt;rw[hpc];obtain⟨xs,hxs⟩:=gen_of p.codes;obtain⟨n,hhn⟩:=gen_of h.c.n;have k7:W0.cell? ⟨w.heap.size,22,none⟩=some (.slice h.c.a n h.c.c):=by rw[P0.cell,<-hpc,<-hhn];rfl
 rw[hxs]at hin hn hx hl ⊢;have HL:Hid (xs.length=n):=hid (by rw[<-hhn];exact hin.at'.len);have hn:n<=1000:=by rw[<-HL];exact hn
 have HV:=hid hin;have hx:=hid hx;have hl:=hid hl;have hlt:=hid hF;replace P0:=hid P0;have HW0:=hid HW0;have S0:=hid S0;have hB0:=hid hb0;obtain⟨aa,haa⟩:=gen_of h.c.a;obtain⟨cc,hcc⟩:=gen_of h.c.c;rw[haa,hcc]at k7;have haa:=hid haa;clear hpc hF hin hxs hhn hW hcc hb0;go_enter func146,ntmps146;go_wp2_with fail
 go_loopw [9] (fun i wr=>∃(j:Nat)(F1:List Nat),i=.int .i64 j/\j<=n/\Hid (Wr wr F1 q (l++(xs.take j).flatMap (fun c=>numB 1 c.toNat)))/\Hid (Stp F F1 w wr)) (fun i _=>n-(intOf i).toNat)
 case atStart=>exact⟨0,F,by go_num,Nat.zero_le _,by simpa using HW0,S0⟩
 case round=>
  obtain⟨j,F1,rfl,hj,hWr,hS⟩:=hrel;by_cases hjn:j<n
  ·obtain⟨x,hxj⟩:∃x,xs[j]?=some x:=⟨_,List.getElem?_eq_getElem (by rw[HL];exact hjn)⟩;obtain⟨b,off,ha,hbl,hrg⟩:=HV.at'.at' j x hxj;have hblk:wr.heap[b]?=w.heap[b]?:=hS.out.wrote.block b hbl (HV.off (List.ne_nil_of_mem (List.mem_of_getElem? hxj)) _ ha);have hgood:=hid (hx x (List.mem_of_getElem? hxj));have hsn:Hid ((xs.take (j+1)).flatMap (fun c=>numB 1 c.toNat)=(xs.take j).flatMap (fun c=>numB 1 c.toNat)++(fun c=>numB 1 c.toNat) x):=hid (by rw[List.take_add_one,hxj,List.flatMap_append];simp)
   have hfit:Hid ((l++(xs.take j).flatMap (fun c=>numB 1 c.toNat)).length+((fun c=>numB 1 c.toNat) x).length<=65536):=hid (by have h1:=flat_take_le (fun c=>numB 1 c.toNat) xs (j+1);rw[hsn,List.length_append]at h1;have h2:=hl.out;rw[List.length_append];omega)
   rw[haa.out]at ha;obtain⟨c,hcx⟩:=Int.eq_ofNat_of_zero_le hgood.1;subst hcx;have hc1:c<256:=by have:=hgood.2;omega
   have hcell:wr.cell? ⟨b,off+j,none⟩=some (.int .i64 (c:Int)):=by have h1:=hrg 0 (.int .i64 (c:Int)) rfl;unfold World.cell? at h1 ⊢;rw[hblk];simpa using h1
   subst ha;clear hrg hbl hblk hxj;have C1:=hid (wN hWr.out c 1 (by decide) (by decide) (by omega) (by have:=hfit.out;rw[numB_len]at this;omega));have hsn:Hid ((xs.take (j+1)).flatMap (fun c=>numB 1 c.toNat)=(xs.take j).flatMap (fun c=>numB 1 c.toNat)++numB 1 c):=hsn;obtain⟨z,hz⟩:=gen_of ((c:Int):Int);have hz0:0<=z:=by omega
   have hz1:z<256:=by omega
   rw[hz]at hcell C1;replace hfit:=hid hl.out;replace hgood:=hid hl.out;clear hz;go_wp2_with fail;refine C1.mono ?_;rintro e w1 ⟨F2,rfl,hw1,hs1⟩;have HW1:Hid (Wr w1 F2 q (l++(xs.take (j+1)).flatMap (fun c=>numB 1 c.toNat))):=hid (by rw[hsn,<-List.append_assoc];exact hw1);have HS1:=hid (hS.out.trans hs1);clear hw1 hs1;go_wp2_with fail;go_roundw
   case rel=>exact⟨j+1,F2,by go_num,by omega,HW1,HS1⟩
   case measure=>simp[intOf];omega
  obtain rfl:j=n:=by omega
  rw[List.take_of_length_le (by rw[HL];exact Nat.le_refl _)]at hWr;have H:=hid (show PutR F q l (xs.flatMap (fun c=>numB 1 c.toNat)) w (.returned (.tuple #[])) wr from⟨F1,rfl,hWr.out,hS.out⟩);clear hWr;go_wp2_with fail
  go_end0
  exact H.out
theorem pk_writeWan(p:Pk)(h:H3){w:World}{F:List Nat}{q:Nat}{l:List UInt8}(hW:Wr w F q l)(hin:LsN WantV.cl 2 w h.w p.wants F)(hn:p.wants.length<=1000)(hx:∀x∈p.wants,x.filter.length<=65535/\0<=x.qos/\x.qos<256)(hl:l.length+(p.wants.flatMap (wantB)).length<=65536):
  Calls prog 137 #[.pointer (some ⟨q,0,none⟩),.agg (p.cells h).toArray] w (PutR F q l (p.wants.flatMap (wantB)) w):=by
 obtain⟨pc,hpc⟩:=gen_of ((p.cells h).toArray);obtain⟨W0,hW0⟩:=gen_of (w.alloc (.cells pc 52));have hb0:Below w.heap.size w W0:=by rw[<-hW0];exact bel_refl.alloc nat_le_rfl _
 have P0:Blk W0 w.heap.size pc 52:=by rw[<-hW0];exact Blk.new _ _ _
 have S0:=Stp.below (F:=F) hb0;have HW0:=hW.below hb0;have hF:∀x∈F,x<w.heap.size:=hW.lt;rw[hpc];obtain⟨xs,hxs⟩:=gen_of p.wants;obtain⟨n,hhn⟩:=gen_of h.w.n;have k7:W0.cell? ⟨w.heap.size,21,none⟩=some (.slice h.w.a n h.w.c):=by rw[P0.cell,<-hpc,<-hhn];rfl
 rw[hxs]at hin hn hx hl ⊢;have HL:Hid (xs.length=n):=hid (by rw[<-hhn];exact hin.at'.len);have hn:n<=1000:=by rw[<-HL];exact hn
 have HV:=hid hin;have hx:=hid hx;have hl:=hid hl;have hlt:=hid hF;replace P0:=hid P0;have HW0:=hid HW0;have S0:=hid S0;have hB0:=hid hb0;obtain⟨aa,haa⟩:=gen_of h.w.a;obtain⟨cc,hcc⟩:=gen_of h.w.c;rw[haa,hcc]at k7;have haa:=hid haa;clear hpc hF hin hxs hhn hW hcc hb0;go_enter func137,ntmps137;go_wp2_with fail
 go_loopw [9] (fun i wr=>∃(j:Nat)(F1:List Nat),i=.int .i64 j/\j<=n/\Hid (Wr wr F1 q (l++(xs.take j).flatMap (wantB)))/\Hid (Stp F F1 w wr)) (fun i _=>n-(intOf i).toNat)
 case atStart=>exact⟨0,F,by go_num,Nat.zero_le _,by simpa using HW0,S0⟩
 case round=>
  obtain⟨j,F1,rfl,hj,hWr,hS⟩:=hrel;by_cases hjn:j<n
  ·obtain⟨x,hxj⟩:∃x,xs[j]?=some x:=⟨_,List.getElem?_eq_getElem (by rw[HL];exact hjn)⟩;obtain⟨b,off,ha,hbl,hrg⟩:=HV.at'.at' j x hxj;have hblk:wr.heap[b]?=w.heap[b]?:=hS.out.wrote.block b hbl (HV.off (List.ne_nil_of_mem (List.mem_of_getElem? hxj)) _ ha);have hgood:=hid (hx x (List.mem_of_getElem? hxj));have hsn:Hid ((xs.take (j+1)).flatMap (wantB)=(xs.take j).flatMap (wantB)++(wantB) x):=hid (by rw[List.take_add_one,hxj,List.flatMap_append];simp)
   have hfit:Hid ((l++(xs.take j).flatMap (wantB)).length+((wantB) x).length<=65536):=hid (by have h1:=flat_take_le (wantB) xs (j+1);rw[hsn,List.length_append]at h1;have h2:=hl.out;rw[List.length_append];omega)
   rw[haa.out]at ha;have hcl:wr.rangeAt b (off+j*2) x.cl:=fun i v hi=>by have h1:=hrg i v hi;unfold World.cell? at h1 ⊢;rw[hblk];exact h1
   subst ha;obtain⟨fl,qo⟩:=x;obtain⟨c,hcx⟩:=Int.eq_ofNat_of_zero_le hgood.2.1;have hcx:qo=(c:Int):=hcx;subst hcx;have hc1:c<256:=by have h9:=hgood.2.2;have h9:(c:Int)<256:=h9;omega
   have hflt:Hid (fl.length<=65535):=hid hgood.1;have hsn:Hid ((xs.take (j+1)).flatMap wantB=(xs.take j).flatMap wantB++(txtB fl++numB 1 c)):=hsn;have hfit:Hid ((l++(xs.take j).flatMap wantB).length+((2+fl.length)+1)<=65536):=hid (by have h9:=hfit.out;rw[show(wantB ⟨fl,(c:Int)⟩).length=2+fl.length+1 by show(txtB fl++numB 1 c).length=_;rw[List.length_append,txtB_len,numB_len]]at h9;exact h9);obtain⟨z,hz⟩:=gen_of ((c:Int):Int);have hz0:0<=z:=by omega
   have hz1:z<256:=by omega
   have hcl:wr.rangeAt b (off+j*2) [.string ⟨fl.toArray⟩,.int .i64 z]:=by rw[<-hz];exact hcl
   have hone:Hid (∀v∈#[Value.string ⟨fl.toArray⟩,.int .i64 z].toList,v.oneCell'=true):=hid (by simp[Value.oneCell']);have hz:=hid hz;clear hrg hbl hblk hxj hgood;go_upto_region 4 with(first
    | (refine wLm 169 rfl rfl hcl underlying169 ?_)
    | (refine wS 169 2 rfl _ _ #[.string ⟨fl.toArray⟩,.int .i64 z] rfl rfl (Blk.new _ _ _) rfl (by rfl) hone.out ?_;intro w3 hw3 hr3))
   have b3:Below wr.heap.size wr w3:=(bel_refl.alloc nat_le_rfl _).trans (hr3.below (by simp) (by simp));have hs3:wr.heap.size+1<=w3.heap.size:=by have:=hr3.size;simp at this;omega
   have W3:=hWr.out.below b3;have S3:=hid (hS.out.trans (Stp.below (F:=F1) b3));have hF1:=hid hWr.out.lt;have k0:w3.cell? ⟨wr.heap.size,0,none⟩=some (.string ⟨fl.toArray⟩):=hw3.cell 0;have C1:=hid (wT W3 fl hflt.out (by have:=hfit.out;omega));have Y3:=hid hw3;clear hr3 b3 hcl W3 hw3;try simp only[PT]
   go_wp2_with fail
   refine C1.mono ?_;rintro e w4 ⟨F2,rfl,hw4,hs4⟩;have k1:w4.cell? ⟨wr.heap.size,1,none⟩=some (.int .i64 z):=(Y3.keepW hs4.wrote (fun hm=>by have:=hF1 _ hm;omega)).cell 1;have C2:=hid (wN hw4 c 1 (by decide) (by decide) (by omega) (by rw[List.length_append,txtB_len];have:=hfit.out;omega));rw[hz.out]at C2;have S4:=hid (S3.trans hs4);clear hw4 hs4 k0;go_wp2_with fail;refine C2.mono ?_;rintro e w5 ⟨F3,rfl,hw5,hs5⟩;have HW1:Hid (Wr w5 F3 q (l++(xs.take (j+1)).flatMap wantB)):=hid (by rw[hsn,<-List.append_assoc,<-List.append_assoc,List.append_assoc l];rw[List.append_assoc l]at hw5;exact hw5);have HS1:=hid (S4.trans hs5);clear hw5 hs5 k1;go_wp2_with fail;go_roundw
   case rel=>exact⟨j+1,F3,by go_num,by omega,HW1,HS1⟩
   case measure=>simp[intOf];omega
  obtain rfl:j=n:=by omega
  rw[List.take_of_length_le (by rw[HL];exact Nat.le_refl _)]at hWr;have H:=hid (show PutR F q l (xs.flatMap (wantB)) w (.returned (.tuple #[])) wr from⟨F1,rfl,hWr.out,hS.out⟩);clear hWr;go_wp2_with fail
  go_end0
  exact H.out
structure LRd (rd:Int->List UInt8->Option (Pk×List UInt8))(id:Int)(B p tb:Nat)(l:List UInt8)(w:World)(e:Ending)(w':World):Prop where
 wrote:Wrote [p,tb] w w'
 out:(rd id l=none/\e=.panicked givenP)\/∃(y:Pk)(h:H3)(r:List UInt8),rd id l=some (y,r)/\e=.returned (.tuple #[])/\Rd w' B p r/\Blk w' tb (y.cells h).toArray 52/\∀M,(∀b∈M,b<w.heap.size)->PkN w' y h M
theorem PkN.step{w w':World}{p:Pk}{h:H3}{M M' M2:List Nat}(k:PkN w p h M)(hw:Wrote M' w w')(h1:∀b∈M',b∈M\/w.heap.size<=b)(h2:∀b∈M2,b∈M\/w.heap.size<=b):PkN w' p h M2:=⟨k.lw.step hw h1 h2,k.lc.step hw h1 h2,k.lf.step hw h1 h2⟩
theorem Wrote.cut{M N:List Nat}{a c:World}(h:Wrote M a c)(hs:∀x∈M,x∈N\/a.heap.size<=x):Wrote N a c:=⟨h.os,h.tape,h.output,h.size,fun i hi hm=>h.block i hi (fun hx=>(hs i hx).elim hm (fun h=>by omega))⟩
theorem pk_readList(fr:FuncId)(b:Nat)(rd:Int->List UInt8->Option (Pk×List UInt8))(k:Int)(f:Nat)(hfr:fnC fr){w:World}{B p:Nat}{l:List UInt8}(h:Rd w B p l)(hb:Boxed w (b+4) 195 (fnV fr #[]))(hbp:b+4≠p)
  (hrd:readP k f l=(rNum 2 l).bind fun i=>(rd (i.1:Int) i.2).bind fun y=>some ({y.1 with kind:=k},y.2))
  (hc:∀W tb id l1,Rd W B p l1->l1.length<=l.length->Blk W tb (({zPk 0 with id:=id}:Pk).cells h3Z).toArray 52->B<=tb->Calls prog fr #[.agg #[.pointer (some ⟨p,0,none⟩)],.pointer (some ⟨tb,0,none⟩)] W (LRd rd id B p tb l1 W)):
  Calls prog 187 #[.agg #[.pointer (some ⟨p,0,none⟩)],.int .i64 f,.pointer (some ⟨b+4,0,none⟩)] w (PRd k f B p l w):=by
 obtain⟨W0,hW0⟩:=gen_of (w.alloc (.cells #[.pointer (some ⟨p,0,none⟩)] 161));have s0:W0.heap.size=w.heap.size+1:=by rw[<-hW0];simp
 obtain⟨W1,hW1⟩:=gen_of (W0.alloc (.cells #[.int .i64 0,.bool false,.bool false,.int .i64 0,.string ⟨#[]⟩,.string ⟨#[]⟩,.int .i64 0,.string ⟨#[]⟩,.bool false,.int .i64 0,.bool false,.string ⟨#[]⟩,.string ⟨#[]⟩,.int .i64 0,.bool false,.bool false,.bool false,.string ⟨#[]⟩,.string ⟨#[]⟩,.bool false,.int .i64 0,.slice none 0 0,.slice none 0 0,.slice none 0 0] 52));have s1:W1.heap.size=w.heap.size+2:=by rw[<-hW1];simp;omega
 have b0:Below w.heap.size w W0:=by rw[<-hW0];exact bel_refl.alloc nat_le_rfl _
 have b1:Below w.heap.size w W1:=by rw[<-hW1];exact b0.alloc b0.size _
 have x1:Blk W1 w.heap.size #[.pointer (some ⟨p,0,none⟩)] 161:=by rw[<-hW1,<-hW0];exact(Blk.new _ _ _).alloc _
 have z1:Blk W1 (w.heap.size+1) zPc 52:=by have:=Blk.new W0 zPc 52;rw[show W0.alloc (.cells zPc 52)=W1 from hW1,s0]at this;exact this
 have R1:=h.below b1;have K1:Wrote [p] w W1:=Wrote.of_below b1;have hpb:=h.lt;have hbs:=h.base;clear h b0;have CX:=hid (pk_number R1 2 (by decide) (by decide));have hbl:=hid hb.lt;have BX1:=hid (boxed_below hb b1);have Z1:=hid z1;have B1:=hid b1;replace K1:=hid K1;replace hrd:=hid hrd;replace hc:=hid hc;unfold fnC at hfr;clear z1 R1 b1 hb;go_enter func187,ntmps187;go_wp2_with (refine wL 161 rfl rfl x1 underlying161 ?_)
 refine CX.mono ?_;rintro e w2 (⟨hno,rfl,hw2⟩ | ⟨⟨i,r⟩,hx,rfl,R2,hw2⟩)
 ·refine⟨rfl,K1.trans hw2,.inl ⟨?_,rfl⟩⟩;rw[hrd.out,hno];rfl
 dsimp only at R2 ⊢;have X2:=hid (x1.keepW hw2 (by simp;omega));have Z2:=hid (Z1.keepW hw2 (by simp;omega));have BX2:=hid (hw2.boxed (by simpa using hbp) BX1.out);have K2:=hid (K1.trans hw2);have R2:=hid R2;have hx:=hid hx;have hs2:w.heap.size+2<=w2.heap.size:=by have:=hw2.size;omega
 obtain⟨ii,hii⟩:=gen_of ((i:Int):Int);rw[hii];replace hii:=hid hii;clear hw2 x1;have hone:Hid (∀v∈(({zPk 0 with id:=ii}:Pk).cells h3Z).toArray.toList,v.oneCell'=true):=hid (Pk.one _ h3Z);obtain⟨pc,hpc⟩:∃pc,(({zPk 0 with id:=ii}:Pk).cells h3Z).toArray=pc:=⟨_,rfl⟩;have hps:Hid (pc.size=24):=hid (by rw[<-hpc];rfl);have hpl:(.agg #[.int .i64 0,.bool false,.bool false,.int .i64 0,.string ⟨#[]⟩,.string ⟨#[]⟩,.int .i64 ii,.string ⟨#[]⟩,.bool false,.int .i64 0,.bool false,.string ⟨#[]⟩,.string ⟨#[]⟩,.int .i64 0,.bool false,.bool false,.bool false,.string ⟨#[]⟩,.string ⟨#[]⟩,.bool false,.int .i64 0,.slice none 0 0,.slice none 0 0,.slice none 0 0]:Value)=.agg pc:=by rw[<-hpc];rfl
 rw[hpc]at hone;replace hpl:=hid hpl;replace hpc:=hid hpc;go_upto_region 2 with(rw[hpl.out];refine wS 52 24 rfl _ _ pc rfl rfl (Blk.new _ _ _) hps.out (by rfl) hone.out ?_;intro w3 hw3 hr3);have b3:Below w2.heap.size w2 w3:=(bel_refl.alloc nat_le_rfl _).trans (hr3.below (by simp) (by simp));have hs3:w2.heap.size+1<=w3.heap.size:=by have:=hr3.size;simp at this;omega
 have R3:=hid (R2.below b3);have x3:=X2.below b3;have Z3:=hid (Z2.below b3);have K3:=hid (K2.trans (Wrote.of_below b3));have k4:w3.cell? ⟨b+4,0,none⟩=some (fnV fr #[]):=(boxed_below BX2.out b3).cell;have hrl:r.length<=l.length:=by have h1:=rNum_len (k:=2) (l:=l) (r:=r) (n:=i) hx.out;omega
 have CC:=hid (hc w3 w2.heap.size ii r R3.out hrl (by rw[hpc.out];exact hw3) (by omega));unfold fnV at k4;clear hr3 b3 hw3 X2 Z2 K2 R2 BX2 hrl;try simp only[PT]
 go_wp2_with (refine wL 161 rfl rfl x3 underlying161 ?_)
 refine CC.mono ?_;rintro e w4 ⟨hw4,hout⟩;have Kx:Wrote [p] w w4:=by have h1:=(K3.sub (M':=[p,w2.heap.size]) (by simp)).trans hw4;exact h1.cut (by simp;omega)
 rcases hout with⟨hno,rfl⟩ | ⟨y,hy,r2,hyr,rfl,R4,Y4,hN⟩
 ·refine⟨rfl,Kx,.inl ⟨?_,rfl⟩⟩;rw[hrd.out,hx.out,Option.bind_some];dsimp only;rw[hii.out,hno];rfl
 have Z4:=hid (Z3.keepW hw4 (by simp;omega));obtain⟨yc,hyc⟩:=gen_of ((y.cells hy).toArray);have hyo:Hid (∀v∈yc.toList,v.oneCell'=true):=hid (by rw[<-hyc];exact Pk.one y hy);have hyz:Hid (yc.size=24):=hid (by rw[<-hyc];rfl);have iy:Hid ((prog.info? 52).map (·.size)=some yc.size):=hid (by rw[hyz];exact(by kernel_rfl:(prog.info? 52).map (·.size)=some 24));rw[hyc]at Y4;have hyc:=hid hyc;have hN:=hid hN;have R4:=hid R4;have Kx:=hid Kx;have hyr:=hid hyr;clear hw4 k4 x3;go_wp2_with (first
  | (refine wL 52 rfl rfl Y4 underlying52 ?_ rfl rfl iy.out)
  | (refine wS 52 24 rfl (w.heap.size+1) _ yc rfl rfl Z4.out hyz.out rfl hyo.out ?_;intro w5 hw5 hr5))
 refine bodyPost_ret (results_cell1 results187 rfl (run_loadVar_blk hw5 52 underlying52 rfl iy.out)) rfl ?_;refine⟨Kx.andNew hr5 (by simp),.inr ⟨y,hy,r2,?_,by rw[hyc.out],R4.wrote hr5 (by simp;omega),fun M hM=>?_⟩⟩
 ·rw[hrd.out,hx.out,Option.bind_some];dsimp only;rw[hii.out,hyr.out];rfl
 refine(hN ((w.heap.size+1)::M) (fun c hc=>?_)).step hr5 (fun c hc=>.inl (by simp at hc;simp[hc])) (fun c hc=>.inl (List.mem_cons_of_mem _ hc));rcases List.mem_cons.1 hc with rfl | hc
 ·omega
 have:=hM c hc;omega
theorem pk_maySub(p:Pk)(h:H3)(W:World)(hin:LsAt WantV.cl 2 W h.w.a h.w.n h.w.c p.wants)(hs:∀x∈p.wants,x.filter.length<=2000000):Calls prog 132 #[.agg (p.cells h).toArray] W (AnyP (fitL p.wants (mayWant)) W):=by
 have hmf:∀(fn:Fn)(first cap:Array Value)(w:World),(Instr.makeFunc fn first cap).run prog w=.ok (.func fn first cap) w:=fun _ _ _ _=>rfl;obtain⟨xc,hxc⟩:=gen_of ((p.cells h).toArray);have hB:Blk (W.alloc (.cells xc 52)) W.heap.size xc 52:=Blk.new _ _ _;have hb:Below W.heap.size W (W.alloc (.cells xc 52)):=bel_refl.alloc nat_le_rfl _;have ix:(prog.info? 52).map (·.size)=some xc.size:=by rw[<-hxc];exact(by kernel_rfl:(prog.info? 52).map (·.size)=some 24)
 replace hb:=hid hb;have k7:(W.alloc (.cells xc 52)).cell? ⟨W.heap.size,21,none⟩=some (.slice h.w.a h.w.n h.w.c):=by rw[hB.cell,<-hxc];rfl
 have CF:=hid (pk_fit_want 134 #[] (mayWant) (hin.below hb.out) (enters_of func134 (by kernel_rfl) rfl) (fun W' x hx _=>pk_want x W' (hs x hx)));obtain⟨b,hbb⟩:=gen_of (fitL p.wants (mayWant));rw[hbb]at CF ⊢;rw[hxc];clear hbb hxc hB ix hin hs;go_enter func132,ntmps132;go_wp2_with fail
 refine CF.mono ?_;rintro e w1 ⟨rfl,hb1⟩;have HB:=hid (hb.trans (hb1.mono hb.size));clear hb1;go_wp2_with fail;go_ret;exact⟨rfl,HB.out⟩
theorem pk_maySua(p:Pk)(h:H3)(W:World)(hin:LsAt iCl 1 W h.c.a h.c.n h.c.c p.codes)(hs:∀x∈p.codes,True):Calls prog 143 #[.agg (p.cells h).toArray] W (AnyP (fitL p.codes (mayCode)) W):=by
 have hmf:∀(fn:Fn)(first cap:Array Value)(w:World),(Instr.makeFunc fn first cap).run prog w=.ok (.func fn first cap) w:=fun _ _ _ _=>rfl;obtain⟨xc,hxc⟩:=gen_of ((p.cells h).toArray);have hB:Blk (W.alloc (.cells xc 52)) W.heap.size xc 52:=Blk.new _ _ _;have hb:Below W.heap.size W (W.alloc (.cells xc 52)):=bel_refl.alloc nat_le_rfl _;have ix:(prog.info? 52).map (·.size)=some xc.size:=by rw[<-hxc];exact(by kernel_rfl:(prog.info? 52).map (·.size)=some 24)
 replace hb:=hid hb;have k7:(W.alloc (.cells xc 52)).cell? ⟨W.heap.size,22,none⟩=some (.slice h.c.a h.c.n h.c.c):=by rw[hB.cell,<-hxc];rfl
 have CF:=hid (pk_fit_int 145 #[] (mayCode) (hin.below hb.out) (enters_of func145 (by kernel_rfl) rfl) (fun W' x hx _=>pk_code x W'));obtain⟨b,hbb⟩:=gen_of (fitL p.codes (mayCode));rw[hbb]at CF ⊢;rw[hxc];clear hbb hxc hB ix hin hs;go_enter func143,ntmps143;go_wp2_with fail
 refine CF.mono ?_;rintro e w1 ⟨rfl,hb1⟩;have HB:=hid (hb.trans (hb1.mono hb.size));clear hb1;go_wp2_with fail;go_ret;exact⟨rfl,HB.out⟩
theorem pk_mayUns(p:Pk)(h:H3)(W:World)(hin:LsAt sCl 1 W h.f.a h.f.n h.f.c p.filters)(hs:∀x∈p.filters,x.length<=2000000):Calls prog 151 #[.agg (p.cells h).toArray] W (AnyP (fitL p.filters (filterR)) W):=by
 have hmf:∀(fn:Fn)(first cap:Array Value)(w:World),(Instr.makeFunc fn first cap).run prog w=.ok (.func fn first cap) w:=fun _ _ _ _=>rfl;obtain⟨xc,hxc⟩:=gen_of ((p.cells h).toArray);have hB:Blk (W.alloc (.cells xc 52)) W.heap.size xc 52:=Blk.new _ _ _;have hb:Below W.heap.size W (W.alloc (.cells xc 52)):=bel_refl.alloc nat_le_rfl _;have ix:(prog.info? 52).map (·.size)=some xc.size:=by rw[<-hxc];exact(by kernel_rfl:(prog.info? 52).map (·.size)=some 24)
 replace hb:=hid hb;have k7:(W.alloc (.cells xc 52)).cell? ⟨W.heap.size,23,none⟩=some (.slice h.f.a h.f.n h.f.c):=by rw[hB.cell,<-hxc];rfl
 have CF:=hid (pk_fit_str 135 #[] (filterR) (hin.below hb.out) (enters_of func135 (by kernel_rfl) rfl) (fun W' x hx _=>(topic_Filter2 x W' (hs x hx)).mono fun e w' h=>⟨h⟩));obtain⟨b,hbb⟩:=gen_of (fitL p.filters (filterR));rw[hbb]at CF ⊢;rw[hxc];clear hbb hxc hB ix hin hs;go_enter func151,ntmps151;go_wp2_with fail
 refine CF.mono ?_;rintro e w1 ⟨rfl,hb1⟩;have HB:=hid (hb.trans (hb1.mono hb.size));clear hb1;go_wp2_with fail;go_ret;exact⟨rfl,HB.out⟩
theorem pk_mayList(f:FuncId)(b:Nat)(q:Bool)(p:Pk)(h:H3)(W:World)(ef:fnC f)(hbx:Boxed W (b+2) 137 (fnV f #[]))(hf:∀W',Below W.heap.size W W'->Calls prog f #[.agg (p.cells h).toArray] W' (AnyP q W')):
  Calls prog 183 #[.agg (p.cells h).toArray,.pointer (some ⟨b+2,0,none⟩)] W (AnyP (within p.id 1 65535&&q) W):=by
 have CW:=hid (pk_within p.id 1 65535);obtain⟨xc,hxc⟩:=gen_of ((p.cells h).toArray);have hB:Blk (W.alloc (.cells xc 52)) W.heap.size xc 52:=Blk.new _ _ _;have hb:Below W.heap.size W (W.alloc (.cells xc 52)):=bel_refl.alloc nat_le_rfl _;have ix:(prog.info? 52).map (·.size)=some xc.size:=by rw[<-hxc];exact(by kernel_rfl:(prog.info? 52).map (·.size)=some 24)
 replace hb:=hid hb;rw[hxc]at hf;have k6:(W.alloc (.cells xc 52)).cell? ⟨W.heap.size,6,none⟩=some (.int .i64 p.id):=by rw[hB.cell,<-hxc];rfl
 have k2:(W.alloc (.cells xc 52)).cell? ⟨b+2,0,none⟩=some (fnV f #[]):=(boxed_below hbx hb.out).cell;have CF:=hid (hf _ hb.out);obtain⟨i,hi⟩:=gen_of p.id;rw[hi]at k6 CW ⊢;obtain⟨v,hv⟩:=gen_of (within i 1 65535);rw[hv]at CW ⊢;rw[hxc];unfold fnV at k2;unfold fnC at ef;replace ix:=hid ix;clear hxc hi hv hf hbx;go_enter func183,ntmps183;go_wp2_with fail
 refine(CW _).mono ?_;rintro e w1 ⟨rfl,rfl⟩;cases v with
 |false=>
  go_wp2_with fail
  go_ret;exact⟨rfl,hb.out⟩
 | true=>
  have tok:=hid trivial;go_wp2_with (clear tok;refine wLG 52 rfl rfl hB underlying52 rfl ?_ ix.out);refine CF.mono ?_;rintro e w2 ⟨rfl,hb2⟩;have HB:=hid (hb.trans (hb2.mono hb.size));clear hb2;cases q<;>
  ·go_wp2_with fail
   go_ret;exact⟨rfl,HB.out⟩
theorem eql_m(x:List UInt8)(W:World):(binOp .eql 9 (.string ⟨x.toArray⟩) (.string ⟨#[77,81,84,84]⟩)).run prog W=.ok (.bool (decide (x=mqtt))) W:=by
 go_simp;by_cases h:x=mqtt
 ·subst h;rfl
 simp[h];exact h
theorem eqg_m(x:List UInt8)(s1 s2:Operand)(W:World):(eqGuard .eql 9 s1 s2 (.string ⟨x.toArray⟩) (.string ⟨#[77,81,84,84]⟩)).run prog W=.ok () W:=by go_simp
theorem and_128:∀f:Nat,f<256->decide (0<bits .and .i64 (f:Int) 128)=has f 128:=by decide+kernel
theorem and_64:∀f:Nat,f<256->decide (0<bits .and .i64 (f:Int) 64)=has f 64:=by decide+kernel
theorem and_32:∀f:Nat,f<256->decide (0<bits .and .i64 (f:Int) 32)=has f 32:=by decide+kernel
theorem and_4:∀f:Nat,f<256->decide (0<bits .and .i64 (f:Int) 4)=has f 4:=by decide+kernel
theorem and_2:∀f:Nat,f<256->decide (0<bits .and .i64 (f:Int) 2)=has f 2:=by decide+kernel
theorem and_q:∀f:Nat,f<256->bits .and .i64 ((f:Int) / 8) 3=((f / 8%4:Nat):Int):=by decide+kernel
theorem readP_1(f:Nat)(l:List UInt8):readP 1 f l=readC l:=by unfold readP;rw[if_pos rfl]
structure CoI (w:World)(B p:Nat)(y:Pk)(r:List UInt8)(W:World):Prop where
 rd:Rd W B p r
 rb:Blk W w.heap.size #[.pointer (some ⟨p,0,none⟩)] 161
 pk:Blk W (w.heap.size+1) (y.cells h3Z).toArray 52
 wrote:Wrote [p] w W
 two:w.heap.size+2<=W.heap.size
theorem CoI.read{w:World}{B p:Nat}{y:Pk}{r r':List UInt8}{W W':World}(h:CoI w B p y r W)(hp:p<w.heap.size)(hR:Rd W' B p r')(hw:Wrote [p] W W'):CoI w B p y r' W':=
 ⟨hR,h.rb.keepW hw (by simp;omega),h.pk.keepW hw (by simp;omega),h.wrote.trans hw,Nat.le_trans h.two hw.size⟩
theorem CoI.put{w:World}{B p:Nat}{y y':Pk}{r:List UInt8}{W W':World}(h:CoI w B p y r W)(hB:B<=w.heap.size)(hk:Blk W' (w.heap.size+1) (y'.cells h3Z).toArray 52)(hw:Wrote [w.heap.size+1] W W'):CoI w B p y' r W':=
 ⟨h.rd.wrote hw (by simp;omega),h.rb.keepW hw (by simp),hk,h.wrote.andNew hw (by simp),Nat.le_trans h.two hw.size⟩
theorem CoI.drew{w:World}{B p:Nat}{y:Pk}{r:List UInt8}{W:World}(h:CoI w B p y r W):CoI w B p y r W.drew:=
 have hb:Below W.heap.size W W.drew:=(Below.refl _ W).drew
 ⟨h.rd.below hb,h.rb.below hb,h.pk.below hb,h.wrote.trans (Wrote.of_below hb),Nat.le_trans h.two hb.size⟩
theorem pk_readCon(f0:Nat){w:World}{B p:Nat}{l:List UInt8}(h:Rd w B p l):Calls prog 203 #[.agg #[.pointer (some ⟨p,0,none⟩)],.int .i64 f0] w (PRd 1 f0 B p l w):=by
 have CM:=hid pk_must;obtain⟨W0,hW0⟩:=gen_of (w.alloc (.cells #[.pointer (some ⟨p,0,none⟩)] 161));have s0:W0.heap.size=w.heap.size+1:=by rw[<-hW0];simp
 obtain⟨W1,hW1⟩:=gen_of (W0.alloc (.cells #[.int .i64 0,.bool false,.bool false,.int .i64 0,.string ⟨#[]⟩,.string ⟨#[]⟩,.int .i64 0,.string ⟨#[]⟩,.bool false,.int .i64 0,.bool false,.string ⟨#[]⟩,.string ⟨#[]⟩,.int .i64 0,.bool false,.bool false,.bool false,.string ⟨#[]⟩,.string ⟨#[]⟩,.bool false,.int .i64 0,.slice none 0 0,.slice none 0 0,.slice none 0 0] 52));have s1:W1.heap.size=w.heap.size+2:=by rw[<-hW1];simp;omega
 have b0:Below w.heap.size w W0:=by rw[<-hW0];exact bel_refl.alloc nat_le_rfl _
 have b1:Below w.heap.size w W1:=by rw[<-hW1];exact b0.alloc b0.size _
 have x1:Blk W1 w.heap.size #[.pointer (some ⟨p,0,none⟩)] 161:=by rw[<-hW1,<-hW0];exact(Blk.new _ _ _).alloc _
 have z1:Blk W1 (w.heap.size+1) zPc 52:=by have:=Blk.new W0 zPc 52;rw[show W0.alloc (.cells zPc 52)=W1 from hW1,s0]at this;exact this
 have R1:=h.below b1;have K1:Wrote [p] w W1:=Wrote.of_below b1;have hpb:=h.lt;have hbs:=h.base;clear h b0;have hpw:p<w.heap.size:=by omega
 have hrp:Hid (readP 1 f0 l=readC l):=hid (readP_1 f0 l);unfold readC at hrp;have HI:=hid (show CoI w B p (zPk 0) l W1 from⟨R1,x1,z1,K1,by omega⟩);have CX:=hid (pk_text R1);clear R1 z1 K1 b1;go_enter func203,ntmps203;go_wp2_with (refine wL 161 rfl rfl x1 underlying161 ?_)
 refine CX.mono ?_;rintro e w2 (⟨hno,rfl,hw2⟩ | ⟨⟨s,r⟩,hx,rfl,R2,hw2⟩)
 ·refine⟨rfl,HI.wrote.trans hw2,.inl ⟨?_,rfl⟩⟩;rw[hrp,hno];rfl
 dsimp only at R2 ⊢;have HI2:=hid (HI.read hpw R2 hw2);rw[hx,Option.bind_some]at hrp;dsimp only at hrp;obtain⟨sv,hsv⟩:=gen_of (Value.string ⟨s.toArray⟩);have EM:=eql_m s;have GM:=eqg_m s;rw[hsv]at EM GM ⊢;have x2:=HI2.rb;have hsv:=hid hsv;clear hw2 R2 x1 HI hx CX;by_cases hm:s=mqtt
 ·rw[decide_eq_true hm]at EM;rw[if_neg (by simpa using hm)]at hrp;clear hm;have CN:=hid (pk_number HI2.rd 1 (by decide) (by decide));go_wp2_with (refine wLmG 161 rfl rfl (HI2.rb.mid [] [.pointer (some ⟨p,0,none⟩)] [] rfl) underlying161 ?_)
  refine CN.mono ?_;rintro e w3 (⟨hno,rfl,hw3⟩ | ⟨⟨v,r3⟩,hx,rfl,R3,hw3⟩)
  ·refine⟨rfl,HI2.wrote.trans hw3,.inl ⟨?_,rfl⟩⟩;rw[hrp,hno];rfl
  dsimp only at R3 ⊢;have HI3:=hid (HI2.read hpw R3 hw3);rw[hx,Option.bind_some]at hrp;dsimp only at hrp;clear hw3 R3 hx HI2 CN EM GM x2;by_cases h4:v=4
  ·subst h4;rw[if_neg (by simp)]at hrp;have CN:=hid (pk_number HI3.rd 1 (by decide) (by decide));have x3:=HI3.rb;go_wp2_with (first
    | (go_at_call 95;refine(CM _ _).mono ?_;rintro e w9 ⟨rfl,rfl⟩)
    | (refine wL 161 rfl rfl x3 underlying161 ?_))
   refine CN.mono ?_;rintro e w4 (⟨hno,rfl,hw4⟩ | ⟨⟨fn,r4⟩,hx,rfl,R4,hw4⟩)
   ·refine⟨rfl,HI3.wrote.trans hw4,.inl ⟨?_,rfl⟩⟩;rw[hrp,hno];rfl
   dsimp only at R4 ⊢;have HI4:=hid (HI3.read hpw R4 hw4);have hfn:fn<256:=by have:=(rNum_some hx).2;simpa using this
   rw[hx,Option.bind_some]at hrp;dsimp only at hrp;clear hw4 R4 hx HI3 CN x3;have e128:=and_128 fn hfn;have e64:=and_64 fn hfn;have e32:=and_32 fn hfn;have e4:=and_4 fn hfn;have e2:=and_2 fn hfn;have eq:=and_q fn hfn;obtain⟨z,hz⟩:=gen_of ((fn:Int):Int);obtain⟨bu,hbu⟩:=gen_of (has fn 128);obtain⟨bp,hbp⟩:=gen_of (has fn 64);obtain⟨br,hbr⟩:=gen_of (has fn 32);obtain⟨bw,hbw⟩:=gen_of (has fn 4);obtain⟨bc,hbc⟩:=gen_of (has fn 2);obtain⟨q,hq⟩:=gen_of (((fn / 8%4:Nat):Int):Int);have hq0:Hid (0<=q/\q<=3):=hid (by omega);have hz0:0<=z:=by omega
   have hz1:z<256:=by omega
   rw[hz]at e128 e64 e32 e4 e2 eq ⊢;rw[hbu]at e128 hrp;rw[hbp]at e64 hrp;rw[hbr]at e32 hrp;rw[hbw]at e4 hrp;rw[hbc]at e2 hrp;rw[hq]at eq hrp;replace hz:=hid hz;replace hfn:=hid hfn;clear hbu hbp hbr hbw hbc hq;have p4:=HI4.pk;have t1:=hid trivial;have t2:=hid trivial;have t3:=hid trivial;have t4:=hid trivial;have t5:=hid trivial;have t6:=hid trivial;obtain⟨c0,hc0⟩:=gen_of (((zPk 0).cells h3Z).toArray);have hs0:Hid (c0.size=24):=hid (by rw[<-hc0];rfl);rw[hc0]at p4;have hc0:=hid hc0;go_upto_region 5 with(first
    | (clear t1;refine wpList_store_cell rfl 4 52 _ _ rfl (fun w=>by kernel_rfl) (w.heap.size+1) 15 c0 (.bool bu) rfl rfl p4 (by rw[hs0];decide) rfl rfl ?_;intro v1 q1 y1)
    | (clear t2;refine wpList_store_cell rfl 4 52 _ _ rfl (fun w=>by kernel_rfl) (w.heap.size+1) 16 _ (.bool bp) rfl rfl q1 (by simp[hs0.out]) rfl rfl ?_;intro v2 q2 y2)
    | (clear t3;refine wpList_store_cell rfl 4 52 _ _ rfl (fun w=>by kernel_rfl) (w.heap.size+1) 14 _ (.bool br) rfl rfl q2 (by simp[hs0.out]) rfl rfl ?_;intro v3 q3 y3)
    | (clear t4;refine wpList_store_cell rfl 4 52 _ _ rfl (fun w=>by kernel_rfl) (w.heap.size+1) 10 _ (.bool bw) rfl rfl q3 (by simp[hs0.out]) rfl rfl ?_;intro v4 q4 y4)
    | (clear t5;refine wpList_store_cell rfl 4 52 _ _ rfl (fun w=>by kernel_rfl) (w.heap.size+1) 8 _ (.bool bc) rfl rfl q4 (by simp[hs0.out]) rfl rfl ?_;intro v5 q5 y5)
    | (clear t6;refine wpList_store_cell rfl 3 52 _ _ rfl (fun w=>by kernel_rfl) (w.heap.size+1) 13 _ (.int .i64 q) rfl rfl q5 (by simp[hs0.out]) rfl rfl ?_;intro v6 q6 y6_))
   obtain⟨y6,hy6⟩:∃y:Pk,({zPk 0 with hasUser:=bu,hasPass:=bp,hasWill:=bw,clean:=bc,will:=⟨[],[],q,br⟩}:Pk)=y:=⟨_,rfl⟩;have HI5:=hid (HI4.put (y':=y6) (by omega) (by rw[<-hy6];rw[<-hc0.out]at q6;exact q6) (((((y1.trans y2).trans y3).trans y4).trans y5).trans y6_));have hy6:=hid hy6;clear q1 q2 q3 q4 q5 q6 y1 y2 y3 y4 y5 y6_ p4 HI4 e128 e64 e32 e4 e2 eq hs0;have HD:=HI5.drew;clear HI5;try simp only[PT]
   refine regionP [(1000,fun w'=>Blk w' w.heap.size #[.pointer (some ⟨p,0,none⟩)] 161)] ?_ (by kernel_rfl) ⟨HD.rb,trivial⟩ fun KQ hKQ=>?_
   ·intro c a d v w h;cases d<;>exact h
   try simp only[PT]
   obtain⟨WD,hWD⟩:=gen_of v6.drew;rw[hWD]at HD ⊢;refine loadQ 0 rfl (by kernel_rfl) (by kernel_rfl) rfl rfl 0 rfl (by kernel_rfl) (.agg #[.pointer (some ⟨p,0,none⟩)]) (fun w' hf=>by(exact run_load_blk hf 161 underlying161 rfl (by kernel_rfl))) ?_;simp only[PT];refine loadQ 2 rfl (by kernel_rfl) (by kernel_rfl) rfl rfl 0 rfl (by kernel_rfl) (.agg #[.pointer (some ⟨p,0,none⟩)]) (fun w' hf=>by(exact run_load_blk hf 161 underlying161 rfl (by kernel_rfl))) ?_;simp only[PT];refine sQ 1 fun K hK=>?_;simp only[GO];go_simp;refine(pk_number HD.rd 2 (by decide) (by decide)).mono ?_;rintro e w5 (⟨hno,rfl,hw5⟩ | ⟨⟨kn,r5⟩,hx,rfl,R5,hw5⟩)
   ·refine hKQ.out _ _ _ ?_;refine⟨rfl,HD.wrote.trans hw5,.inl ⟨?_,rfl⟩⟩;rw[hrp,hno];rfl
   dsimp only at R5 ⊢;rw[hx,Option.bind_some]at hrp;dsimp only at hrp;have H5:=HD.read hpw R5 hw5;refine hK _ _ ⟨⟨fun _=>H5.rb,trivial⟩,?_⟩;clear hK K hx hw5 R5;try simp only[PT]
   refine tQ [4] ?_;refine sQ 3 fun K hK=>?_;simp only[GO];go_simp;refine(pk_text H5.rd).mono ?_;rintro e w6 (⟨hno,rfl,hw6⟩ | ⟨⟨cl,r6⟩,hx,rfl,R6,hw6⟩)
   ·refine hKQ.out _ _ _ ?_;refine⟨rfl,H5.wrote.trans hw6,.inl ⟨?_,rfl⟩⟩;rw[hrp,hno];rfl
   dsimp only at R6 ⊢;rw[hx,Option.bind_some]at hrp;dsimp only at hrp;have H6:=H5.read hpw R6 hw6;refine hK _ _ ⟨⟨fun _=>H6.rb,trivial⟩,?_⟩;clear hK K hx hw6 R6;try simp only[PT]
   refine sQ 5 fun K hK=>?_;simp only[GO];refine wp_store_cell 2 52 _ _ rfl (fun w=>by kernel_rfl) (w.heap.size+1) 9 _ (.int .i64 (kn:Int)) rfl rfl H6.pk (by show 9<24;decide) rfl rfl fun w7 k7 hw7=>?_;have H7:=H6.put (y':={y6 with keep:=(kn:Int)}) (by omega) k7 hw7;refine hK _ _ ⟨⟨fun _=>H7.rb,trivial⟩,?_⟩;clear hK K k7 hw7;try simp only[PT]
   refine tQ [6] ?_;refine sQ 7 fun K hK=>?_;simp only[GO];refine wp_store_cell 9 52 _ _ rfl (fun w=>by kernel_rfl) (w.heap.size+1) 7 _ (.string ⟨cl.toArray⟩) rfl rfl H7.pk (by show 7<24;decide) rfl rfl fun w8 k8 hw8=>?_;have H8:=H7.put (y':={y6 with keep:=(kn:Int),client:=cl}) (by omega) k8 hw8;refine hK _ _ ⟨⟨fun _=>H8.rb,trivial⟩,?_⟩;clear hK K k8 hw8;try simp only[PT]
   refine dQ (hKQ.out _ _ _ ?_);clear hKQ KQ HD H5 H6 H7 hWD;obtain⟨y8,hy8⟩:∃y:Pk,({y6 with keep:=(kn:Int),client:=cl}:Pk)=y:=⟨_,rfl⟩;rw[hy8]at H8;replace hy8:=hid hy8;have H8:=hid H8;have hw8:Hid (y8.hasWill=bw):=hid (by rw[<-hy8.out,<-hy6.out]);have k10:w8.cell? ⟨w.heap.size+1,10,none⟩=some (.bool bw):=by rw[<-hw8];exact H8.pk.cell 10
   have hwill:Hid (({y8 with will:=⟨[],[],q,br⟩}:Pk)=y8):=hid (by rw[<-hy8.out,<-hy6.out]);go_upto_if 50 with fail
   try simp only[PT]
   go_cut []from 51 to 58 (fun wx=>∃(wt wb r:List UInt8),Hid (rOpt bw ([],[]) rTwo r6=some ((wt,wb),r))/\Hid (CoI w B p {y8 with will:=⟨wt,wb,q,br⟩} r wx))
   case first=>
    cases bw with
    |false=>
     go_wp2_with fail
     go_meet
     case rel=>exact⟨[],[],r6,hid rfl,hid (by rw[hwill];exact H8.out)⟩
    | true=>
     go_upto_region 7 with fail
     try simp only[PT]
     have HD:=H8.drew;refine regionP [(1000,fun w'=>Blk w' w.heap.size #[.pointer (some ⟨p,0,none⟩)] 161)] ?_ (by kernel_rfl) ⟨HD.rb,trivial⟩ fun KQ hKQ=>?_
     ·intro c a d v w h;cases d<;>exact h
     try simp only[PT]
     obtain⟨WD,hWD⟩:=gen_of w8.drew;rw[hWD]at HD ⊢;refine loadQ 0 rfl (by kernel_rfl) (by kernel_rfl) rfl rfl 0 rfl (by kernel_rfl) (.agg #[.pointer (some ⟨p,0,none⟩)]) (fun w' hf=>by(exact run_load_blk hf 161 underlying161 rfl (by kernel_rfl))) ?_;simp only[PT];refine loadQ 2 rfl (by kernel_rfl) (by kernel_rfl) rfl rfl 0 rfl (by kernel_rfl) (.agg #[.pointer (some ⟨p,0,none⟩)]) (fun w' hf=>by(exact run_load_blk hf 161 underlying161 rfl (by kernel_rfl))) ?_;simp only[PT];refine sQ 1 fun K hK=>?_;simp only[GO];go_simp;refine(pk_text HD.rd).mono ?_;rintro e w9 (⟨hno,rfl,hw9⟩ | ⟨⟨wt,r9⟩,hx9,rfl,R9,hw9⟩)
     ·refine hKQ.out _ _ _ ?_;refine⟨rfl,HD.wrote.trans hw9,.inl ⟨?_,rfl⟩⟩;rw[hrp.out,show rOpt true ([],[]) rTwo r6=none from by unfold rOpt rTwo;rw[if_pos rfl,hno];rfl];rfl
     dsimp only at R9 ⊢;have H9:=HD.read hpw R9 hw9;refine hK _ _ ⟨⟨fun _=>H9.rb,trivial⟩,?_⟩;clear hK K hw9 R9;try simp only[PT]
     refine tQ [4,5] ?_;refine sQ 3 fun K hK=>?_;simp only[GO];go_simp;refine(pk_text H9.rd).mono ?_;rintro e w10 (⟨hno,rfl,hw10⟩ | ⟨⟨wb,r10⟩,hx10,rfl,R10,hw10⟩)
     ·refine hKQ.out _ _ _ ?_;refine⟨rfl,H9.wrote.trans hw10,.inl ⟨?_,rfl⟩⟩;rw[hrp.out,show rOpt true ([],[]) rTwo r6=none from by unfold rOpt rTwo;rw[if_pos rfl,hx9,Option.bind_some];dsimp only;rw[hno];rfl];rfl
     dsimp only at R10 ⊢;have H10:=H9.read hpw R10 hw10;refine hK _ _ ⟨⟨fun _=>H10.rb,trivial⟩,?_⟩;clear hK K hw10 R10;try simp only[PT]
     refine sQ 6 fun K hK=>?_;simp only[GO];rw[<-hwill]at H10;refine wp_store_cell 9 52 _ _ rfl (fun w=>by kernel_rfl) (w.heap.size+1) 11 _ (.string ⟨wt.toArray⟩) rfl rfl H10.pk (by show 11<24;decide) rfl rfl fun w11 k11 hw11=>?_;have H11:=H10.put (y':={y8 with will:=⟨wt,[],q,br⟩}) (by omega) k11 hw11;refine hK _ _ ⟨⟨fun _=>H11.rb,trivial⟩,?_⟩;clear hK K k11 hw11;try simp only[PT]
     refine tQ [7,8] ?_;refine sQ 9 fun K hK=>?_;simp only[GO];refine wp_store_cell 9 52 _ _ rfl (fun w=>by kernel_rfl) (w.heap.size+1) 12 _ (.string ⟨wb.toArray⟩) rfl rfl H11.pk (by show 12<24;decide) rfl rfl fun w12 k12 hw12=>?_;have H12:=H11.put (y':={y8 with will:=⟨wt,wb,q,br⟩}) (by omega) k12 hw12;refine hK _ _ ⟨⟨fun _=>H12.rb,trivial⟩,?_⟩;clear hK K k12 hw12;try simp only[PT]
     refine dQ (hKQ.out _ _ _ ?_);have HE:=hid H12;have hro:Hid (rOpt true ([],[]) rTwo r6=some ((wt,wb),r10)):=hid (by unfold rOpt rTwo;rw[if_pos rfl,hx9,Option.bind_some];dsimp only;rw[hx10];rfl);clear hKQ KQ HD H9 H10 H11 hWD hx9 hx10 H12;go_wp2_with fail;go_meet
     case rel=>exact⟨wt,wb,r10,hro,HE⟩
   case rest=>
    obtain⟨wt,wb,r7,hro,H9⟩:=hcut;obtain⟨wx,hwx⟩:=gen_of wc;rw[hwx]at H9 ⊢;rw[hro,Option.bind_some]at hrp;dsimp only at hrp;clear hwx hro H8 k10 hw8 hwill;obtain⟨y9,hy9⟩:∃y:Pk,({y8 with will:=⟨wt,wb,q,br⟩}:Pk)=y:=⟨_,rfl⟩;rw[hy9]at H9;replace hy9:=hid hy9;have k15:wx.cell? ⟨w.heap.size+1,15,none⟩=some (.bool bu):=by rw[show Value.bool bu=.bool y9.hasUser by rw[<-hy9.out,<-hy8.out,<-hy6.out]];exact H9.out.pk.cell 15
    go_upto_if 60 with fail
    try simp only[PT]
    have huser:Hid (({y9 with user:=[]}:Pk)=y9):=hid (by rw[<-hy9.out,<-hy8.out,<-hy6.out];rfl);go_cut []from 61 to 63 (fun wx=>∃(us r:List UInt8),Hid (rOpt bu [] rTxt r7=some (us,r))/\Hid (CoI w B p {y9 with user:=us} r wx))
    case first=>
     cases bu with
     |false=>
      go_wp2_with fail
      go_meet
      case rel=>exact⟨[],r7,hid rfl,hid (by rw[huser];exact H9.out)⟩
     | true=>
      have CT:=hid (pk_text H9.out.rd);have xx:=H9.out.rb;go_wp2_with (refine wL 161 rfl rfl xx underlying161 ?_)
      refine CT.mono ?_;rintro e w14 (⟨hno,rfl,hw14⟩ | ⟨⟨us,r14⟩,hx14,rfl,R14,hw14⟩)
      ·refine⟨rfl,H9.out.wrote.trans hw14,.inl ⟨?_,rfl⟩⟩;rw[hrp.out,show rOpt true [] rTxt r7=none from by unfold rOpt;rw[if_pos rfl,hno]];rfl
      dsimp only at R14 ⊢;have H14:=hid (H9.out.read hpw R14 hw14);have p14:=H14.pk;have hro:Hid (rOpt true [] rTxt r7=some (us,r14)):=hid (by unfold rOpt;rw[if_pos rfl,hx14]);obtain⟨cy,hcy⟩:=gen_of ((y9.cells h3Z).toArray);have hcs:Hid (cy.size=24):=hid (by rw[<-hcy];rfl);have hset:Hid (cy.setIfInBounds 17 (.string ⟨us.toArray⟩)=(({y9 with user:=us}:Pk).cells h3Z).toArray):=hid (by rw[<-hcy];rfl);rw[hcy]at p14;clear hw14 R14 hx14 xx CT hcy;go_wp2_with (refine wpList_store_cell rfl 9 52 _ _ rfl (fun w=>by kernel_rfl) (w.heap.size+1) 17 cy (.string ⟨us.toArray⟩) rfl rfl p14 (by rw[hcs];decide) rfl rfl ?_;intro w15 k15x hw15);rw[hset]at k15x;have HE:=hid (H14.put (y':={y9 with user:=us}) (by omega) k15x hw15);clear k15x hw15 p14;go_meet
      case rel=>exact⟨us,r14,hro,HE⟩
    case rest=>
     obtain⟨us,r8,hro,H10⟩:=hcut;obtain⟨wz,hwz⟩:=gen_of wc;rw[hwz]at H10 ⊢;rw[hro,Option.bind_some]at hrp;dsimp only at hrp;clear hwz hro H9 k15 huser;obtain⟨y10,hy10⟩:∃y:Pk,({y9 with user:=us}:Pk)=y:=⟨_,rfl⟩;rw[hy10]at H10;replace hy10:=hid hy10;have k16:wz.cell? ⟨w.heap.size+1,16,none⟩=some (.bool bp):=by rw[show Value.bool bp=.bool y10.hasPass by rw[<-hy10.out,<-hy9.out,<-hy8.out,<-hy6.out]];exact H10.out.pk.cell 16
     have hpass:Hid (({y10 with pass:=[]}:Pk)=y10):=hid (by rw[<-hy10.out,<-hy9.out,<-hy8.out,<-hy6.out];rfl);go_upto_if 65 with fail
     try simp only[PT]
     go_cut []from 66 to 68 (fun wx=>∃(us r:List UInt8),Hid (rOpt bp [] rTxt r8=some (us,r))/\Hid (CoI w B p {y10 with pass:=us} r wx))
     case first=>
      cases bp with
      |false=>
       go_wp2_with fail
       go_meet
       case rel=>exact⟨[],r8,hid rfl,hid (by rw[hpass];exact H10.out)⟩
      | true=>
       have CT:=hid (pk_text H10.out.rd);have xx:=H10.out.rb;go_wp2_with (refine wL 161 rfl rfl xx underlying161 ?_)
       refine CT.mono ?_;rintro e w14 (⟨hno,rfl,hw14⟩ | ⟨⟨us,r14⟩,hx14,rfl,R14,hw14⟩)
       ·refine⟨rfl,H10.out.wrote.trans hw14,.inl ⟨?_,rfl⟩⟩;rw[hrp.out,show rOpt true [] rTxt r8=none from by unfold rOpt;rw[if_pos rfl,hno]];rfl
       dsimp only at R14 ⊢;have H14:=hid (H10.out.read hpw R14 hw14);have p14:=H14.pk;have hro:Hid (rOpt true [] rTxt r8=some (us,r14)):=hid (by unfold rOpt;rw[if_pos rfl,hx14]);obtain⟨cy,hcy⟩:=gen_of ((y10.cells h3Z).toArray);have hcs:Hid (cy.size=24):=hid (by rw[<-hcy];rfl);have hset:Hid (cy.setIfInBounds 18 (.string ⟨us.toArray⟩)=(({y10 with pass:=us}:Pk).cells h3Z).toArray):=hid (by rw[<-hcy];rfl);rw[hcy]at p14;clear hw14 R14 hx14 xx CT hcy;go_wp2_with (refine wpList_store_cell rfl 9 52 _ _ rfl (fun w=>by kernel_rfl) (w.heap.size+1) 18 cy (.string ⟨us.toArray⟩) rfl rfl p14 (by rw[hcs];decide) rfl rfl ?_;intro w15 k15x hw15);rw[hset]at k15x;have HE:=hid (H14.put (y':={y10 with pass:=us}) (by omega) k15x hw15);clear k15x hw15 p14;go_meet
       case rel=>exact⟨us,r14,hro,HE⟩
     case rest=>
      obtain⟨ps,r9,hro,H11⟩:=hcut;obtain⟨wv,hwv⟩:=gen_of wc;rw[hwv]at H11 ⊢;rw[hro,Option.bind_some]at hrp;dsimp only at hrp;clear hwv hro H10 k16 hpass;obtain⟨yF,hyF⟩:∃y:Pk,({y10 with pass:=ps}:Pk)=y:=⟨_,rfl⟩;rw[hyF]at H11;have hqF:yF.will.qos=q:=by rw[<-hyF,<-hy10.out,<-hy9.out]
      have hfin:Hid (readP 1 f0 l=if fn=connN yF then some ({yF with kind:=1},r9)else none):=hid (by rw[hrp,<-hyF,<-hy10.out,<-hy9.out,<-hy8.out,<-hy6.out];rfl)
      have CC:=hid (pk_connects yF h3Z wv (by rw[hqF];exact hq0.out));obtain⟨yc,hyc⟩:=gen_of ((yF.cells h3Z).toArray);have hyo:Hid (∀v∈yc.toList,v.oneCell'=true):=hid (by rw[<-hyc];exact Pk.one yF h3Z);have hyz:Hid (yc.size=24):=hid (by rw[<-hyc];rfl);have iy:Hid ((prog.info? 52).map (·.size)=some yc.size):=hid (by rw[hyz];exact(by kernel_rfl:(prog.info? 52).map (·.size)=some 24));have pF:=H11.out.pk;have hnil:Hid (yF.wants=[]/\yF.codes=[]/\yF.filters=[]):=hid (by rw[<-hyF,<-hy10.out,<-hy9.out,<-hy8.out,<-hy6.out];exact⟨rfl,rfl,rfl⟩);rw[hyc]at pF CC;replace hyc:=hid hyc;replace hyF:=hid hyF;obtain⟨cz,hcz⟩:=gen_of (((connN yF:Nat):Int):Int);rw[hcz]at CC;clear hrp hqF;go_wp2_with (refine wL 52 rfl rfl pF underlying52 ?_ rfl rfl iy.out);refine CC.mono ?_;rintro e w12 ⟨rfl,hb12⟩;have HJ:=hid (H11.out.read hpw (H11.out.rd.below hb12) (Wrote.of_below hb12));have pG:=HJ.pk;rw[hyc.out]at pG;clear hb12 pF H11;by_cases hc:z=cz
      ·have d:(z==cz)=true:=by simpa using hc
       have hfn2:Hid (fn=connN yF):=hid (by have:=hz.out;omega);clear hc hcz;go_wp2_with (first
        | (go_at_call 95;refine(CM _ _).mono ?_;rintro e w9 ⟨rfl,rfl⟩)
        | (refine wL 52 rfl rfl pG underlying52 ?_ rfl rfl iy.out)
        | (refine wS 52 24 rfl (w.heap.size+1) yc yc rfl rfl pG hyz.out hyz.out hyo.out ?_;intro w13 hw13 hr13))
       refine bodyPost_ret (results_cell1 results203 rfl (run_loadVar_blk hw13 52 underlying52 rfl iy.out)) rfl ?_;refine⟨HJ.wrote.andNew hr13 (by simp),.inr ⟨yF,h3Z,r9,?_,by rw[hyc.out],HJ.rd.wrote hr13 (by simp;omega),fun M _=>PkN.zero _ _ hnil.out M⟩⟩;rw[hfin,if_pos hfn2.out]
      have d:(z==cz)=false:=by simpa using hc
      have hfn2:Hid (fn≠connN yF):=hid (by have:=hz.out;omega);clear hc hcz;go_wp2_with (go_at_call 95;refine(CM _ _).mono ?_;rintro e w9 ⟨rfl,rfl⟩);refine⟨rfl,HJ.wrote,.inl ⟨?_,rfl⟩⟩;rw[hfin,if_neg hfn2.out]
  have d:((v:Int)==4)=false:=by rw[beq_eq_false_iff_ne];omega
  rw[if_pos h4]at hrp;obtain⟨zv,hzv⟩:=gen_of ((v:Int):Int);rw[hzv]at d ⊢;clear hzv h4;go_wp2_with (go_at_call 95;refine(CM _ _).mono ?_;rintro e w9 ⟨rfl,rfl⟩);exact⟨rfl,HI3.wrote,.inl ⟨hrp.out,rfl⟩⟩
 rw[decide_eq_false hm]at EM;rw[if_pos hm]at hrp;go_wp2_with (go_at_call 95;refine(CM _ _).mono ?_;rintro e w9 ⟨rfl,rfl⟩)
 exact⟨rfl,HI2.wrote,.inl ⟨hrp.out,rfl⟩⟩
theorem pk_code1(W:World)(B p rb:Nat)(l:List UInt8)(hR:Rd W B p l)(hb:Blk W rb #[.pointer (some ⟨p,0,none⟩)] 161):Calls prog 149 #[.pointer (some ⟨rb,0,none⟩)] W (TakeP rCode iVl B p l W):=by
 have CN:=hid (pk_number hR 1 (by decide) (by decide));go_enter func149,ntmps149;go_wp2_with (refine wL 161 rfl rfl hb underlying161 ?_)
 refine CN.mono ?_;rintro e w1 (⟨hx,rfl,hw1⟩ | ⟨x,hx,rfl,hR1,hw1⟩)
 ·exact⟨rfl,.inl ⟨by unfold rCode;rw[hx];rfl,rfl,hw1⟩⟩
 have H:=hid (show TakeP rCode iVl B p l W (.returned (.int .i64 x.1)) w1 from .inr ⟨((x.1:Int),x.2),by unfold rCode;rw[hx];rfl,rfl,hR1,hw1⟩);clear hx hR1 hw1;go_wp2_with fail;go_ret;exact H.out
theorem pk_want1(W:World)(B p rb:Nat)(l:List UInt8)(hR:Rd W B p l)(hb:Blk W rb #[.pointer (some ⟨p,0,none⟩)] 161)(hrp:rb≠p):Calls prog 140 #[.pointer (some ⟨rb,0,none⟩)] W (TakeP rWant wVl B p l W):=by
 obtain⟨W0,hW0⟩:=gen_of (W.alloc (.cells #[.string ⟨#[]⟩,.int .i64 0] 169));have b0:Below W.heap.size W W0:=by rw[<-hW0];exact bel_refl.alloc nat_le_rfl _
 have z0:Blk W0 W.heap.size #[.string ⟨#[]⟩,.int .i64 0] 169:=by rw[<-hW0];exact Blk.new _ _ _
 have R0:=hR.below b0;have X0:=hb.below b0;have K0:Wrote [p] W W0:=Wrote.of_below b0;have hpb:=hR.lt;have hbs:=hR.base;have hrl:=hb.lt;clear hb hR b0;go_enter func140,ntmps140;go_upto_region 1 with fail
 have xD:Blk W0.drew rb #[.pointer (some ⟨p,0,none⟩)] 161:=X0;have zD:Blk W0.drew W.heap.size #[.string ⟨#[]⟩,.int .i64 0] 169:=z0;have RD:Rd W0.drew B p l:=R0.below ((Below.refl _ W0).drew);have KD:Wrote [p] W W0.drew:=K0.trans (Wrote.of_below ((Below.refl _ W0).drew));refine regionP [(1000,fun w'=>Blk w' rb #[.pointer (some ⟨p,0,none⟩)] 161)] ?_ (by kernel_rfl) ⟨xD,trivial⟩ fun KQ hKQ=>?_
 ·intro c a d v w h;cases d<;>exact h
 try simp only[PT]
 obtain⟨WD,hWD⟩:=gen_of W0.drew;rw[hWD]at xD zD RD KD ⊢;refine loadQ 0 rfl (by kernel_rfl) (by kernel_rfl) rfl rfl 0 rfl (by kernel_rfl) (.agg #[.pointer (some ⟨p,0,none⟩)]) (fun w' hf=>by(exact run_load_blk hf 161 underlying161 rfl (by kernel_rfl))) ?_;simp only[PT];refine loadQ 2 rfl (by kernel_rfl) (by kernel_rfl) rfl rfl 0 rfl (by kernel_rfl) (.agg #[.pointer (some ⟨p,0,none⟩)]) (fun w' hf=>by(exact run_load_blk hf 161 underlying161 rfl (by kernel_rfl))) ?_;simp only[PT];refine sQ 1 fun K hK=>?_;simp only[GO];go_simp;refine(pk_text RD).mono ?_;rintro e w1 (⟨hno,rfl,hw1⟩ | ⟨⟨s,r1⟩,hx1,rfl,R1,hw1⟩)
 ·refine hKQ.out _ _ _ ?_;refine⟨rfl,.inl ⟨?_,rfl,KD.trans hw1⟩⟩;unfold rWant;rw[hno];rfl
 dsimp only at R1 ⊢;have x1:=xD.keepW hw1 (by simpa using hrp);have z1:=zD.keepW hw1 (by simp;omega);have K1:=KD.trans hw1;refine hK _ _ ⟨⟨fun _=>x1,trivial⟩,?_⟩;clear hK K;try simp only[PT]
 refine sQ 3 fun K hK=>?_;simp only[GO];go_simp;refine(pk_number R1 1 (by decide) (by decide)).mono ?_;rintro e w2 (⟨hno,rfl,hw2⟩ | ⟨⟨q,r2⟩,hx2,rfl,R2,hw2⟩)
 ·refine hKQ.out _ _ _ ?_;refine⟨rfl,.inl ⟨?_,rfl,K1.trans hw2⟩⟩;unfold rWant;rw[hx1,Option.bind_some];dsimp only;rw[hno];rfl
 dsimp only at R2 ⊢;have x2:=x1.keepW hw2 (by simpa using hrp);have z2:=z1.keepW hw2 (by simp;omega);have K2:=K1.trans hw2;refine hK _ _ ⟨⟨fun _=>x2,trivial⟩,?_⟩;clear hK K;try simp only[PT]
 refine tQ [4] ?_;refine sQ 5 fun K hK=>?_;simp only[GO];refine wW 169 2 rfl W.heap.size #[.string ⟨#[]⟩,.int .i64 0] #[.string ⟨s.toArray⟩,.int .i64 (q:Int)] rfl rfl z2 rfl rfl (by simp[Value.oneCell']) fun w3 z3 hw3=>?_;have x3:=x2.keepW hw3 (by simp;omega);refine hK _ _ ⟨⟨fun _=>x3,trivial⟩,?_⟩;clear hK K;try simp only[PT]
 refine dQ (hKQ.out _ _ _ ?_);go_wp2_with fail
 refine bodyPost_ret (results_cell1 results140 rfl (run_loadVar_blk z3 169 underlying169 rfl (by kernel_rfl))) rfl ?_;refine .inr ⟨(⟨s,(q:Int)⟩,r2),?_,rfl,R2.wrote hw3 (by simp;omega),K2.andNew hw3 (by simp)⟩;unfold rWant;rw[hx1,Option.bind_some];dsimp only;rw[hx2];rfl
theorem pk_lread_want(W:World)(B p tb:Nat)(id:Int)(l:List UInt8)(hR:Rd W B p l)(hL:l.length<=65536)(hb:Blk W tb (({zPk 0 with id:=id}:Pk).cells h3Z).toArray 52)(hB:B<=tb):
  Calls prog 138 #[.agg #[.pointer (some ⟨p,0,none⟩)],.pointer (some ⟨tb,0,none⟩)] W (LRd (fun id l=>(rAll rWant l.length l).bind fun ws=>some ({zPk 0 with id:=id,wants:=ws},[])) id B p tb l W):=by
 have hmf:∀(fn:Fn)(first cap:Array Value)(w:World),(Instr.makeFunc fn first cap).run prog w=.ok (.func fn first cap) w:=fun _ _ _ _=>rfl;obtain⟨W0,hW0⟩:=gen_of (W.alloc (.cells #[.pointer (some ⟨p,0,none⟩)] 161));have b0:Below W.heap.size W W0:=by rw[<-hW0];exact bel_refl.alloc nat_le_rfl _
 have s0:W0.heap.size=W.heap.size+1:=by rw[<-hW0];simp
 have x0:Blk W0 W.heap.size #[.pointer (some ⟨p,0,none⟩)] 161:=by rw[<-hW0];exact Blk.new _ _ _
 have T0:=hid (hb.below b0);have K0:Hid (Wrote [p,tb] W W0):=hid (Wrote.of_below b0);have hpb:=hR.lt;have hbs:=hR.base;have htl:=hid hb.lt;have hf:fnC 140:=enters_of func140 (by kernel_rfl) rfl;have CT:=hid (pk_all_want 140 #[.pointer (some ⟨W.heap.size,0,none⟩)] rWant (fun l x r h=>rWant_less h) (hR.below b0) hL [W.heap.size] (by simp;omega) (by simpa using x0) hf (fun W1 l1 h1 h2=>pk_want1 W1 B p W.heap.size l1 h1 (h2 _ (by simp)) (by omega)));clear hb b0 hR;go_enter func138,ntmps138;go_wp2_with (refine wL 161 rfl rfl x0 underlying161 ?_)
 refine CT.mono ?_;rintro e w1 ⟨hw1,⟨hno,rfl⟩ | ⟨xs,v,hal,rfl,R1,ho⟩⟩
 ·exact⟨rfl,K0.trans (hw1.sub (by simp)),.inl ⟨by rw[hno];rfl,rfl⟩⟩
 obtain⟨av,cv,rfl⟩:=own_slice ho;have T1:=T0.keepW hw1 (by simp;omega);have K1:=hid (K0.trans (hw1.sub (by simp)));have hal:=hid hal;have HO:=hid ho;have R1:=hid R1;have s1:=hid hw1.size;clear hw1 x0 ho;obtain⟨n,hn⟩:=gen_of xs.length;rw[hn]at HO ⊢;have hn:=hid hn;obtain⟨tc,htc⟩:∃tc,(({zPk 0 with id:=id}:Pk).cells h3Z).toArray=tc:=⟨_,rfl⟩;have hts:Hid (tc.size=24):=hid (by rw[<-htc];rfl);have hty:Hid (tc.setIfInBounds 21 (.slice av n cv)=(({zPk 0 with id:=id,wants:=xs}:Pk).cells ⟨⟨av,n,cv⟩,hdZ,hdZ⟩).toArray):=hid (by rw[<-htc];rfl);rw[htc]at T1;clear htc T0;go_wp2_with (refine wpList_store_cell rfl 48 52 _ _ rfl (fun w=>by kernel_rfl) tb 21 tc (.slice av n cv) rfl rfl T1 (by rw[hts];decide) rfl rfl ?_;intro w3 hw3 hr3);rw[hty]at hw3;have H:LRd (fun id l=>(rAll rWant l.length l).bind fun ws=>some ({zPk 0 with id:=id,wants:=ws},[])) id B p tb l W (.returned (.tuple #[])) w3:=⟨K1.trans (hr3.sub (by simp)),.inr ⟨{zPk 0 with id:=id,wants:=xs},⟨⟨av,n,cv⟩,hdZ,hdZ⟩,[],by rw[hal.out];rfl,rfl,R1.wrote hr3 (by simp;omega),hw3,fun M hM=>?_⟩⟩
 ·go_end0
  exact H
 have hlp:LsN WantV.cl 2 w3 ⟨av,n,cv⟩ xs M:=by
  refine own_lsN (f:=WantV.cl) (size:=2) (fun x=>rfl) (not_own HO.out hr3 (fun y hy hm=>?_)) hn.out (fun c hc=>?_)
  ·have:=(HO.lt y (mem_blk.1 hm)).1;have:=htl.out;simp at hy;omega
  have:=hM c hc;omega
 exact⟨hlp,LsN.nil w3 M,LsN.nil w3 M⟩
theorem pk_lread_int(W:World)(B p tb:Nat)(id:Int)(l:List UInt8)(hR:Rd W B p l)(hL:l.length<=65536)(hb:Blk W tb (({zPk 0 with id:=id}:Pk).cells h3Z).toArray 52)(hB:B<=tb):
  Calls prog 147 #[.agg #[.pointer (some ⟨p,0,none⟩)],.pointer (some ⟨tb,0,none⟩)] W (LRd (fun id l=>(rAll rCode l.length l).bind fun ws=>some ({zPk 0 with id:=id,codes:=ws},[])) id B p tb l W):=by
 have hmf:∀(fn:Fn)(first cap:Array Value)(w:World),(Instr.makeFunc fn first cap).run prog w=.ok (.func fn first cap) w:=fun _ _ _ _=>rfl;obtain⟨W0,hW0⟩:=gen_of (W.alloc (.cells #[.pointer (some ⟨p,0,none⟩)] 161));have b0:Below W.heap.size W W0:=by rw[<-hW0];exact bel_refl.alloc nat_le_rfl _
 have s0:W0.heap.size=W.heap.size+1:=by rw[<-hW0];simp
 have x0:Blk W0 W.heap.size #[.pointer (some ⟨p,0,none⟩)] 161:=by rw[<-hW0];exact Blk.new _ _ _
 have T0:=hid (hb.below b0);have K0:Hid (Wrote [p,tb] W W0):=hid (Wrote.of_below b0);have hpb:=hR.lt;have hbs:=hR.base;have htl:=hid hb.lt;have hf:fnC 149:=enters_of func149 (by kernel_rfl) rfl;have CT:=hid (pk_all_int 149 #[.pointer (some ⟨W.heap.size,0,none⟩)] rCode (fun l x r h=>rCode_less h) (hR.below b0) hL [W.heap.size] (by simp;omega) (by simpa using x0) hf (fun W1 l1 h1 h2=>pk_code1 W1 B p W.heap.size l1 h1 (h2 _ (by simp))));clear hb b0 hR;go_enter func147,ntmps147;go_wp2_with (refine wL 161 rfl rfl x0 underlying161 ?_)
 refine CT.mono ?_;rintro e w1 ⟨hw1,⟨hno,rfl⟩ | ⟨xs,v,hal,rfl,R1,ho⟩⟩
 ·exact⟨rfl,K0.trans (hw1.sub (by simp)),.inl ⟨by rw[hno];rfl,rfl⟩⟩
 obtain⟨av,cv,rfl⟩:=own_slice ho;have T1:=T0.keepW hw1 (by simp;omega);have K1:=hid (K0.trans (hw1.sub (by simp)));have hal:=hid hal;have HO:=hid ho;have R1:=hid R1;have s1:=hid hw1.size;clear hw1 x0 ho;obtain⟨n,hn⟩:=gen_of xs.length;rw[hn]at HO ⊢;have hn:=hid hn;obtain⟨tc,htc⟩:∃tc,(({zPk 0 with id:=id}:Pk).cells h3Z).toArray=tc:=⟨_,rfl⟩;have hts:Hid (tc.size=24):=hid (by rw[<-htc];rfl);have hty:Hid (tc.setIfInBounds 22 (.slice av n cv)=(({zPk 0 with id:=id,codes:=xs}:Pk).cells ⟨hdZ,⟨av,n,cv⟩,hdZ⟩).toArray):=hid (by rw[<-htc];rfl);rw[htc]at T1;clear htc T0;go_wp2_with (refine wpList_store_cell rfl 49 52 _ _ rfl (fun w=>by kernel_rfl) tb 22 tc (.slice av n cv) rfl rfl T1 (by rw[hts];decide) rfl rfl ?_;intro w3 hw3 hr3);rw[hty]at hw3;have H:LRd (fun id l=>(rAll rCode l.length l).bind fun ws=>some ({zPk 0 with id:=id,codes:=ws},[])) id B p tb l W (.returned (.tuple #[])) w3:=⟨K1.trans (hr3.sub (by simp)),.inr ⟨{zPk 0 with id:=id,codes:=xs},⟨hdZ,⟨av,n,cv⟩,hdZ⟩,[],by rw[hal.out];rfl,rfl,R1.wrote hr3 (by simp;omega),hw3,fun M hM=>?_⟩⟩
 ·go_end0
  exact H
 have hlp:LsN iCl 1 w3 ⟨av,n,cv⟩ xs M:=by
  refine own_lsN (f:=iCl) (size:=1) (fun x=>rfl) (not_own HO.out hr3 (fun y hy hm=>?_)) hn.out (fun c hc=>?_)
  ·have:=(HO.lt y (mem_blk.1 hm)).1;have:=htl.out;simp at hy;omega
  have:=hM c hc;omega
 exact⟨LsN.nil w3 M,hlp,LsN.nil w3 M⟩
theorem pk_lread_str(W:World)(B p tb:Nat)(id:Int)(l:List UInt8)(hR:Rd W B p l)(hL:l.length<=65536)(hb:Blk W tb (({zPk 0 with id:=id}:Pk).cells h3Z).toArray 52)(hB:B<=tb):
  Calls prog 154 #[.agg #[.pointer (some ⟨p,0,none⟩)],.pointer (some ⟨tb,0,none⟩)] W (LRd (fun id l=>(rAll rTxt l.length l).bind fun ws=>some ({zPk 0 with id:=id,filters:=ws},[])) id B p tb l W):=by
 have hmf:∀(fn:Fn)(first cap:Array Value)(w:World),(Instr.makeFunc fn first cap).run prog w=.ok (.func fn first cap) w:=fun _ _ _ _=>rfl;obtain⟨W0,hW0⟩:=gen_of (W.alloc (.cells #[.pointer (some ⟨p,0,none⟩)] 161));have b0:Below W.heap.size W W0:=by rw[<-hW0];exact bel_refl.alloc nat_le_rfl _
 have s0:W0.heap.size=W.heap.size+1:=by rw[<-hW0];simp
 have x0:Blk W0 W.heap.size #[.pointer (some ⟨p,0,none⟩)] 161:=by rw[<-hW0];exact Blk.new _ _ _
 have T0:=hid (hb.below b0);have K0:Hid (Wrote [p,tb] W W0):=hid (Wrote.of_below b0);have hpb:=hR.lt;have hbs:=hR.base;have htl:=hid hb.lt;have hf:fnC 141:=enters_of func141 (by kernel_rfl) rfl;have CT:=hid (pk_all_str 141 #[.agg #[.pointer (some ⟨p,0,none⟩)]] rTxt (fun l x r h=>rTxt_less h) (hR.below b0) hL [] (by simp) (by simp) hf (fun W1 l1 h1 h2=>(pk_text h1).mono fun e w' h=>h.elim (fun k=>.inl ⟨k.1,k.2.1,k.2.2⟩) (fun⟨x,k⟩=>.inr ⟨x,k.1,k.2.1,k.2.2.1,k.2.2.2⟩)));clear hb b0 hR;go_enter func154,ntmps154;go_wp2_with (refine wL 161 rfl rfl x0 underlying161 ?_)
 refine CT.mono ?_;rintro e w1 ⟨hw1,⟨hno,rfl⟩ | ⟨xs,v,hal,rfl,R1,ho⟩⟩
 ·exact⟨rfl,K0.trans (hw1.sub (by simp)),.inl ⟨by rw[hno];rfl,rfl⟩⟩
 obtain⟨av,cv,rfl⟩:=own_slice ho;have T1:=T0.keepW hw1 (by simp;omega);have K1:=hid (K0.trans (hw1.sub (by simp)));have hal:=hid hal;have HO:=hid ho;have R1:=hid R1;have s1:=hid hw1.size;clear hw1 x0 ho;obtain⟨n,hn⟩:=gen_of xs.length;rw[hn]at HO ⊢;have hn:=hid hn;obtain⟨tc,htc⟩:∃tc,(({zPk 0 with id:=id}:Pk).cells h3Z).toArray=tc:=⟨_,rfl⟩;have hts:Hid (tc.size=24):=hid (by rw[<-htc];rfl);have hty:Hid (tc.setIfInBounds 23 (.slice av n cv)=(({zPk 0 with id:=id,filters:=xs}:Pk).cells ⟨hdZ,hdZ,⟨av,n,cv⟩⟩).toArray):=hid (by rw[<-htc];rfl);rw[htc]at T1;clear htc T0;go_wp2_with (refine wpList_store_cell rfl 50 52 _ _ rfl (fun w=>by kernel_rfl) tb 23 tc (.slice av n cv) rfl rfl T1 (by rw[hts];decide) rfl rfl ?_;intro w3 hw3 hr3);rw[hty]at hw3;have H:LRd (fun id l=>(rAll rTxt l.length l).bind fun ws=>some ({zPk 0 with id:=id,filters:=ws},[])) id B p tb l W (.returned (.tuple #[])) w3:=⟨K1.trans (hr3.sub (by simp)),.inr ⟨{zPk 0 with id:=id,filters:=xs},⟨hdZ,hdZ,⟨av,n,cv⟩⟩,[],by rw[hal.out];rfl,rfl,R1.wrote hr3 (by simp;omega),hw3,fun M hM=>?_⟩⟩
 ·go_end0
  exact H
 have hlp:LsN sCl 1 w3 ⟨av,n,cv⟩ xs M:=by
  refine own_lsN (f:=sCl) (size:=1) (fun x=>rfl) (not_own HO.out hr3 (fun y hy hm=>?_)) hn.out (fun c hc=>?_)
  ·have:=(HO.lt y (mem_blk.1 hm)).1;have:=htl.out;simp at hy;omega
  have:=hM c hc;omega
 exact⟨LsN.nil w3 M,LsN.nil w3 M,hlp⟩
theorem pk_lread_ans(W:World)(B p tb:Nat)(id:Int)(l:List UInt8)(hR:Rd W B p l)(hb:Blk W tb (({zPk 0 with id:=id}:Pk).cells h3Z).toArray 52):
  Calls prog 214 #[.agg #[.pointer (some ⟨p,0,none⟩)],.pointer (some ⟨tb,0,none⟩)] W (LRd (fun id l=>some ({zPk 0 with id:=id},l)) id B p tb l W):=by
 have b0:Below W.heap.size W (W.alloc (.cells #[.pointer (some ⟨p,0,none⟩)] 161)):=bel_refl.alloc nat_le_rfl _;go_enter func214,ntmps214;go_wp2_with fail
 go_end0
 exact⟨Wrote.of_below b0,.inr ⟨{zPk 0 with id:=id},h3Z,l,rfl,rfl,hR.below b0,hb.below b0,fun M _=>PkN.zero _ _ ⟨rfl,rfl,rfl⟩ M⟩⟩
def headC(p:Pk):List UInt8:=txtB mqtt++(numB 1 4++(numB 1 (connN p)++(numB 2 p.keep.toNat++txtB p.client)))
def itemsC(p:Pk):List (Bool×List UInt8):=[(p.hasWill,p.will.topic),(p.hasWill,p.will.body),(p.hasUser,p.user),(p.hasPass,p.pass)]
def itemB(x:Bool×List UInt8):List UInt8:=if x.1 then txtB x.2 else[]
def itemV(x:Bool×List UInt8):List Value:=[.bool x.1,.string ⟨x.2.toArray⟩]
theorem bodyC_eq(p:Pk)(hk:p.kind=1):bodyP p=headC p++(itemsC p).flatMap itemB:=by unfold bodyP headC itemsC itemB;rw[if_pos hk];cases p.hasWill<;>cases p.hasUser<;>cases p.hasPass<;>simp
structure CwI (F:List Nat)(q:Nat)(l:List UInt8)(w:World)(pc:Array Value)(m:List UInt8)(F1:List Nat)(W:World):Prop where
 wr:Wr W F1 q (l++m)
 stp:Stp F F1 w W
 pk:Blk W w.heap.size pc 52
 off:w.heap.size∉F1
theorem CwI.step{F:List Nat}{q:Nat}{l:List UInt8}{w:World}{pc:Array Value}{m m':List UInt8}{F1 F2:List Nat}{W W':World}(h:CwI F q l w pc m F1 W)(hw:Wr W' F2 q (l++m++m'))(hs:Stp F1 F2 W W'):CwI F q l w pc (m++m') F2 W':=
 ⟨by rw[<-List.append_assoc];exact hw,h.stp.trans hs,h.pk.keepW hs.wrote h.off,hs.not h.off h.pk.lt⟩
theorem CwI.below{F:List Nat}{q:Nat}{l:List UInt8}{w:World}{pc:Array Value}{m:List UInt8}{F1:List Nat}{W W':World}(h:CwI F q l w pc m F1 W)(hb:Below W.heap.size W W'):CwI F q l w pc m F1 W':=
 ⟨h.wr.below hb,h.stp.trans (Stp.below hb),h.pk.below hb,h.off⟩
theorem pk_writeCon(p:Pk)(h:H3){w:World}{F:List Nat}{q:Nat}{l:List UInt8}(hW:Wr w F q l)(hN:connN p<256)(hk:0<=p.keep/\p.keep<65536)(hq:0<=p.will.qos/\p.will.qos<=3)(hcl:p.client.length<=65535)(hx:∀x∈itemsC p,x.2.length<=65535)(hl:l.length+(headC p).length+((itemsC p).flatMap itemB).length<=65536):
  Calls prog 201 #[.pointer (some ⟨q,0,none⟩),.agg (p.cells h).toArray] w (PutR F q l (headC p++(itemsC p).flatMap itemB) w):=by
 have hhl:(headC p).length=6+(1+(1+(2+(2+p.client.length)))):=by unfold headC;rw[List.length_append,List.length_append,List.length_append,List.length_append,txtB_len,txtB_len,numB_len,numB_len,numB_len];rfl
 rw[hhl]at hl;obtain⟨pc,hpc⟩:=gen_of ((p.cells h).toArray);obtain⟨W0,hW0⟩:=gen_of (w.alloc (.cells pc 52));have hb0:Below w.heap.size w W0:=by rw[<-hW0];exact bel_refl.alloc nat_le_rfl _
 have P0:Blk W0 w.heap.size pc 52:=by rw[<-hW0];exact Blk.new _ _ _
 have S0:=Stp.below (F:=F) hb0;have HW0:=hW.below hb0;have hF:∀x∈F,x<w.heap.size:=hW.lt;rw[hpc];have ic:Hid ((prog.info? 52).map (·.size)=some pc.size):=hid (by rw[<-hpc];exact(by kernel_rfl:(prog.info? 52).map (·.size)=some 24));have CC:=hid (fun W=>pk_connects p h W hq);rw[hpc]at CC;have HWx:=hid HW0;replace P0:=hid P0;replace S0:=hid S0;replace hF:=hid hF;replace hhl:=hid hhl;obtain⟨cn,hcn⟩:=gen_of (connN p);rw[hcn]at hN CC;have hcn:=hid hcn;obtain⟨cz,hcz⟩:=gen_of ((cn:Int):Int);rw[hcz]at CC;have hz0:0<=cz:=by omega
 have hz1:cz<256:=by omega
 have hcz:=hid hcz;obtain⟨kk,hkk⟩:=Int.eq_ofNat_of_zero_le hk.1;have hk2:kk<65536:=by omega
 have hkz:0<=p.keep:=hk.1;have hkz2:p.keep<65536:=hk.2;have kc:Hid (∀W,Blk W w.heap.size pc 52->W.cell? ⟨w.heap.size,9,none⟩=some (.int .i64 p.keep)/\W.cell? ⟨w.heap.size,7,none⟩=some (.string ⟨p.client.toArray⟩)/\W.cell? ⟨w.heap.size,10,none⟩=some (.bool p.hasWill)/\W.cell? ⟨w.heap.size,11,none⟩=some (.string ⟨p.will.topic.toArray⟩)/\W.cell? ⟨w.heap.size,12,none⟩=some (.string ⟨p.will.body.toArray⟩)/\W.cell? ⟨w.heap.size,15,none⟩=some (.bool p.hasUser)/\W.cell? ⟨w.heap.size,17,none⟩=some (.string ⟨p.user.toArray⟩)/\W.cell? ⟨w.heap.size,16,none⟩=some (.bool p.hasPass)/\W.cell? ⟨w.heap.size,18,none⟩=some (.string ⟨p.pass.toArray⟩)):=hid fun W hb=>by rw[<-hpc]at hb;exact⟨hb.cell 9,hb.cell 7,hb.cell 10,hb.cell 11,hb.cell 12,hb.cell 15,hb.cell 17,hb.cell 16,hb.cell 18⟩
 replace hx:=hid hx;clear hpc hb0 HW0 hW hk hq;have H0:=hid (show CwI F q l w pc [] F W0 from⟨by rw[List.append_nil];exact HWx.out,S0.out,P0.out,fun hm=>by have:=hF _ hm;omega⟩);obtain⟨ln,hln⟩:=gen_of l.length;rw[hln]at hl;have L0:Hid ((l++([]:List UInt8)).length=ln):=hid (by rw[List.append_nil,hln]);obtain⟨il,hil⟩:=gen_of (((itemsC p).flatMap itemB).length);rw[hil]at hl;replace hil:=hid hil;obtain⟨kz,hkzz⟩:=gen_of p.keep;rw[hkzz]at kc hkz hkz2;have hkeq:Hid ((kk:Int)=kz):=hid (by rw[<-hkzz];exact hkk.symm);have hktn:Hid (p.keep.toNat=kk):=hid (by rw[hkk];rfl);have C1:Hid (Calls prog 93 #[.pointer (some ⟨q,0,none⟩),.string ⟨#[77,81,84,84]⟩] W0 (NumR F q (l++[]) (txtB mqtt) W0)):=hid (wT H0.wr mqtt (by decide) (by show(l++[]).length+6<=65536;rw[L0];omega));clear S0 P0 hF HWx hln hkk hkzz;go_enter func201,ntmps201;go_wp2_with fail
 refine C1.mono ?_;rintro e w1 ⟨F1,rfl,hwx,hsx⟩;have H1:=hid (H0.step hwx hsx);have L1:Hid ((l++([]++txtB mqtt)).length=ln+6):=hid (by rw[<-List.append_assoc,List.length_append,L0];rfl);clear hwx hsx;have C2:=hid (wN H1.wr 4 1 (by decide) (by decide) (by decide) (by rw[L1];omega));go_wp2_with fail
 refine C2.mono ?_;rintro e w2 ⟨F2,rfl,hwx,hsx⟩;have H2:=hid (H1.step hwx hsx);have L2:Hid ((l++(([]++txtB mqtt)++numB 1 4)).length=ln+7):=hid (by rw[<-List.append_assoc,List.length_append,L1];rw[numB_len]);clear hwx hsx;have p2:=H2.pk;have C3:=hid (CC w2);go_wp2_with (refine wL 52 rfl rfl p2 underlying52 ?_ rfl rfl ic.out)
 refine C3.mono ?_;rintro e w3 ⟨rfl,hb3⟩;have H3':=hid (H2.below hb3);have C4:=hid (wN H3'.wr cn 1 (by decide) (by decide) (by omega) (by rw[L2];omega));rw[hcz.out]at C4;clear hb3 p2;go_wp2_with fail;refine C4.mono ?_;rintro e w4 ⟨F4,rfl,hwx,hsx⟩;have H4:=hid (H3'.step hwx hsx);have L4:Hid ((l++(([]++txtB mqtt++numB 1 4)++numB 1 cn)).length=ln+8):=hid (by rw[<-List.append_assoc,List.length_append,L2];rw[numB_len]);clear hwx hsx;have k9:=(kc _ H4.pk).1;have C5:=hid (wN H4.wr kk 2 (by decide) (by decide) (by omega) (by rw[L4];omega));rw[hkeq]at C5;go_wp2_with fail
 refine C5.mono ?_;rintro e w5 ⟨F5,rfl,hwx,hsx⟩;have H5:=hid (H4.step hwx hsx);have L5:Hid ((l++(([]++txtB mqtt++numB 1 4++numB 1 cn)++numB 2 kk)).length=ln+10):=hid (by rw[<-List.append_assoc,List.length_append,L4];rw[numB_len]);clear hwx hsx;have k7:=(kc _ H5.pk).2.1;have C6:=hid (wT H5.wr p.client hcl (by rw[L5];omega));clear k9;go_wp2_with fail;refine C6.mono ?_;rintro e w6 ⟨F6,rfl,hwx,hsx⟩;have H6:=hid (H5.step hwx hsx);have L6:Hid ((l++(([]++txtB mqtt++numB 1 4++numB 1 cn++numB 2 kk)++txtB p.client)).length=ln+12+p.client.length):=hid (by rw[<-List.append_assoc,List.length_append,L5];rw[txtB_len];omega);clear hwx hsx;clear k7;obtain⟨-, -,k10,k11,k12,k15,k17,k16,k18⟩:=kc _ H6.pk;go_upto_region 7 with fail
 obtain⟨xs,hxs⟩:=gen_of (itemsC p);obtain⟨W7,hW7⟩:=gen_of (w6.alloc (.cells #[.bool p.hasWill,.string ⟨p.will.topic.toArray⟩,.bool p.hasWill,.string ⟨p.will.body.toArray⟩,.bool p.hasUser,.string ⟨p.user.toArray⟩,.bool p.hasPass,.string ⟨p.pass.toArray⟩] 243));have hL7:LsAt itemV 2 W7 (some ⟨w6.heap.size,0,none⟩) 4 4 xs:=by rw[<-hW7,<-hxs];exact ls_of_own (f:=itemV) (size:=2) (e:=243) (fun x=>rfl) (World.ownsRow_lit w6 #[.bool p.hasWill,.string ⟨p.will.topic.toArray⟩,.bool p.hasWill,.string ⟨p.will.body.toArray⟩,.bool p.hasUser,.string ⟨p.user.toArray⟩,.bool p.hasPass,.string ⟨p.pass.toArray⟩] 4 nat_le_rfl (by decide) rfl) rfl
 have HL:Hid (xs.length=4):=hid (by rw[<-hxs];rfl);have b7:Below w6.heap.size w6 W7:=by rw[<-hW7];exact bel_refl.alloc nat_le_rfl _
 have H7:=hid (H6.below b7);have hg6:Hid (w6.heap.size∉F6):=hid (fun hm=>by have:=H6.wr.lt _ hm;omega);obtain⟨g,hg⟩:=gen_of w6.heap.size;rw[hg]at hL7 hg6 ⊢;rw[hW7];rw[hxs]at hx hil;have HV:=hid hL7;have hxs:=hid hxs;clear hL7 b7 hg hW7 k10 k11 k12 k15 k16 k17 k18;obtain⟨m6,hm6⟩:=gen_of ([]++txtB mqtt++numB 1 4++numB 1 cn++numB 2 kk++txtB p.client);rw[hm6]at H7 L6;have hm6:=hid hm6;go_loopw [48] (fun i wr=>∃(j:Nat)(F1:List Nat),i=.int .i64 j/\j<=4/\Hid (Wr wr F1 q (l++m6++(xs.take j).flatMap itemB))/\Hid (Stp F6 F1 W7 wr)) (fun i _=>4-(intOf i).toNat)
 case atStart=>exact⟨0,F6,by go_num,Nat.zero_le _,hid (by simpa using H7.wr),hid (Stp.refl _ _)⟩
 case round=>
  obtain⟨j,F1,rfl,hj,hWr,hS⟩:=hrel;by_cases hjn:j<4
  ·obtain⟨x,hxj⟩:∃x,xs[j]?=some x:=⟨_,List.getElem?_eq_getElem (by rw[HL];exact hjn)⟩;obtain⟨b,off,ha,hbl,hrg⟩:=HV.at' j x hxj;cases ha;have hblk:wr.heap[g]?=W7.heap[g]?:=hS.out.wrote.block g hbl hg6.out;have hgood:=hid (hx x (List.mem_of_getElem? hxj));have hsn:Hid ((xs.take (j+1)).flatMap itemB=(xs.take j).flatMap itemB++itemB x):=hid (by rw[List.take_add_one,hxj,List.flatMap_append];simp)
   have hfit:Hid ((l++m6++(xs.take j).flatMap itemB).length+(itemB x).length<=65536):=hid (by have h1:=flat_take_le itemB xs (j+1);rw[hsn,List.length_append,hil.out]at h1;rw[List.length_append,L6];omega)
   have hcl:wr.rangeAt g (0+j*2) (itemV x):=fun i v hi=>by have h1:=hrg i v hi;unfold World.cell? at h1 ⊢;rw[hblk];exact h1
   obtain⟨bx,sx⟩:=x;have hcl:wr.rangeAt g (j*2) [.bool bx,.string ⟨sx.toArray⟩]:=by rw[show j*2=0+j*2 by omega];exact hcl
   have hone:Hid (∀v∈#[Value.bool bx,.string ⟨sx.toArray⟩].toList,v.oneCell'=true):=hid (by simp[Value.oneCell']);clear hrg hbl hblk hxj;go_upto_region 9 with(first
    | (refine wLm 243 rfl rfl hcl underlying243 ?_)
    | (refine wS 243 2 rfl _ _ #[.bool bx,.string ⟨sx.toArray⟩] rfl rfl (Blk.new _ _ _) rfl (by rfl) hone.out ?_;intro v3 hw3 hr3))
   have b3:Below wr.heap.size wr v3:=(bel_refl.alloc nat_le_rfl _).trans (hr3.below (by simp) (by simp));have V3:=hWr.out.below b3;have S3:=hid (hS.out.trans (Stp.below (F:=F1) b3));have k0:v3.cell? ⟨wr.heap.size,0,none⟩=some (.bool bx):=hw3.cell 0;have k1:v3.cell? ⟨wr.heap.size,1,none⟩=some (.string ⟨sx.toArray⟩):=hw3.cell 1;have W3:=hid V3;clear hr3 b3 hcl V3 hw3;try simp only[PT]
   cases bx with
   |true=>
    have C1:=hid (wT W3.out sx hgood.out (by have h9:=hfit.out;rw[show(itemB (true,sx)).length=2+sx.length from txtB_len sx]at h9;omega));go_wp2_with fail
    refine C1.mono ?_;rintro e v4 ⟨F2,rfl,hw4,hs4⟩;have HW1:Hid (Wr v4 F2 q (l++m6++(xs.take (j+1)).flatMap itemB)):=hid (by rw[hsn,<-List.append_assoc];exact hw4);have HS1:=hid (S3.trans hs4);clear hw4 hs4;go_wp2_with fail;go_roundw
    case rel=>exact⟨j+1,F2,by go_num,by omega,HW1,HS1⟩
    case measure=>simp[intOf];omega
   |false=>
    have HW1:Hid (Wr v3 F1 q (l++m6++(xs.take (j+1)).flatMap itemB)):=hid (by rw[hsn.out,show itemB (false,sx)=[]from rfl,List.append_nil];exact W3.out);go_wp2_with fail
    go_roundw
    case rel=>exact⟨j+1,F1,by go_num,by omega,HW1,S3⟩
    case measure=>simp[intOf];omega
  obtain rfl:j=4:=by omega
  rw[List.take_of_length_le (by rw[HL];exact Nat.le_refl _)]at hWr;have hhd:Hid (headC p=m6):=hid (by unfold headC;rw[hcn.out,hktn,<-hm6.out];simp only[List.append_assoc,List.nil_append])
  have H:=hid (show PutR F q l (headC p++(itemsC p).flatMap itemB) w (.returned (.tuple #[])) wr from⟨F1,rfl,by rw[hhd,hxs.out,<-List.append_assoc];exact hWr.out,H7.stp.trans hS.out⟩);clear hWr;go_wp2_with fail
  go_end0
  exact H.out
def ShK(b:Nat->Nat)(k:Nat)(W:World):Prop:=4<=k->k<=11->LiAt b k W
structure MayHasP (b:Nat->Nat)(p:Pk)(h:H3)(f1:FuncId)(c1:Array Value)(f2:FuncId)(c2:Array Value):Prop where
 e1:fnC f1
 e2:fnC f2
 may:∀W,p.In W h->ShK b p.kind.toNat W->Calls prog f1 (#[.agg (p.cells h).toArray]++c1) W (AnyP (mayP p) W)
 has:∀W,ShK b p.kind.toNat W->Calls prog f2 (#[.agg (p.cells h).toArray]++c2) W fun e w'=>∃(y:Pk)(hy:H3),e=.returned (.agg (y.cells hy).toArray)/\{y with kind:=p.kind}=aloneP p/\(∀W',p.In W' h->y.In W' hy)/\Below W.heap.size W w'
theorem ShK.at'{b:Nat->Nat}{p:Pk}{k:Nat}{W:World}(h:ShK b p.kind.toNat W)(hk:p.kind=(k:Int))(h4:4<=k)(h11:k<=11):LiAt b k W:=by
 have e:p.kind.toNat=k:=by rw[hk];rfl
 rw[e]at h;exact h h4 h11
theorem In.z(W:World)(y:Pk)(h:y.wants=[]/\y.codes=[]/\y.filters=[]):y.In W h3Z:=by
 obtain⟨a,b,c⟩:=h;refine⟨?_,?_,?_⟩
 ·rw[a];exact LsAt.nil W
 ·rw[b];exact LsAt.nil W
 rw[c];exact LsAt.nil W
theorem pk_do(b:Nat->Nat)(p:Pk)(h:H3)(hs:PkS p)(hfw:(∀x∈p.wants,x.filter.length<=2000000)/\∀x∈p.filters,x.length<=2000000)(k:Nat)(hk:p.kind=(k:Int))(hk1:1<=k/\k<=14):∃f1 c1 f2 c2 g3 g4 g5,shpV b k=.agg #[fnV f1 c1,fnV f2 c2,g3,g4,g5]/\MayHasP b p h f1 c1 f2 c2:=by
 have:k=1\/k=2\/k=3\/k=4\/k=5\/k=6\/k=7\/k=8\/k=9\/k=10\/k=11\/k=12\/k=13\/k=14:=by omega
 rcases this with rfl | rfl | rfl | rfl | rfl | rfl | rfl | rfl | rfl | rfl | rfl | rfl | rfl | rfl
 ·refine⟨197,#[],200,#[],_,_,_,rfl,enters_of func197 (by kernel_rfl) rfl,enters_of func200 (by kernel_rfl) rfl,fun W hin hsh=>?_,fun W hsh=>?_⟩
  ·have e:mayP p=mayC p:=by unfold mayP;simp[hk]
   rw[e];exact pk_mayCon p h W hs
  have e:aloneP p={zPk 1 with client:=p.client,clean:=p.clean,keep:=p.keep,hasWill:=p.hasWill,will:=p.will,hasUser:=p.hasUser,hasPass:=p.hasPass,user:=p.user,pass:=p.pass}:=by unfold aloneP;simp[hk]
  rw[e];exact(pk_hasCon p h W).mono fun e w' ⟨he,hb⟩=>⟨_,_,he,by rw[hk];rfl,fun W' hW=>In.z W' _ ⟨rfl,rfl,rfl⟩,hb⟩
 ·refine⟨123,#[],125,#[],_,_,_,rfl,enters_of func123 (by kernel_rfl) rfl,enters_of func125 (by kernel_rfl) rfl,fun W hin hsh=>?_,fun W hsh=>?_⟩
  ·have e:mayP p=mayA p:=by unfold mayP;simp[hk]
   rw[e];exact pk_mayAck p h W
  have e:aloneP p={zPk 2 with present:=p.present,code:=p.code}:=by unfold aloneP;simp[hk]
  rw[e];exact(pk_hasAck p h W).mono fun e w' ⟨he,hb⟩=>⟨_,_,he,by rw[hk];rfl,fun W' hW=>In.z W' _ ⟨rfl,rfl,rfl⟩,hb⟩
 ·refine⟨204,#[],205,#[],_,_,_,rfl,enters_of func204 (by kernel_rfl) rfl,enters_of func205 (by kernel_rfl) rfl,fun W hin hsh=>?_,fun W hsh=>?_⟩
  ·have e:mayP p=mayPub p:=by unfold mayP;simp[hk]
   rw[e];exact pk_mayPub p h W hs
  have e:aloneP p={zPk 3 with topic:=p.topic,body:=p.body,qos:=p.qos,retain:=p.retain,dup:=p.dup,id:=p.id}:=by unfold aloneP;simp[hk]
  rw[e];exact(pk_hasPub p h W).mono fun e w' ⟨he,hb⟩=>⟨_,_,he,by rw[hk];rfl,fun W' hW=>In.z W' _ ⟨rfl,rfl,rfl⟩,hb⟩
 ·refine⟨183,#[.pointer (some ⟨b 4+2,0,none⟩)],184,#[.pointer (some ⟨b 4+1,0,none⟩)],_,_,_,rfl,enters_of func183 (by kernel_rfl) rfl,enters_of func184 (by kernel_rfl) rfl,fun W hin hsh=>?_,fun W hsh=>?_⟩
  ·have e:mayP p=(within p.id 1 65535&&true):=by unfold mayP;simp[hk]
   rw[e];exact pk_mayList 212 (b 4) (true) p h W (enters_of func212 (by kernel_rfl) rfl) (ShK.at' hsh hk (by decide) (by decide)).may (fun W1 _=>pk_mayAns _ W1)
  have e:aloneP p={zPk 4 with id:=p.id}:=by unfold aloneP;simp[hk]
  rw[e];exact(pk_hasList 211 (b 4) p h ((zPk 0)) h3Z W (enters_of func211 (by kernel_rfl) rfl) (ShK.at' hsh hk (by decide) (by decide)).has (fun W1=>pk_hasAns p h W1)).mono fun e w' ⟨he,hb⟩=>⟨_,_,he,by rw[hk];rfl,fun W' hW=>In.z W' _ ⟨rfl,rfl,rfl⟩,hb⟩
 ·refine⟨183,#[.pointer (some ⟨b 5+2,0,none⟩)],184,#[.pointer (some ⟨b 5+1,0,none⟩)],_,_,_,rfl,enters_of func183 (by kernel_rfl) rfl,enters_of func184 (by kernel_rfl) rfl,fun W hin hsh=>?_,fun W hsh=>?_⟩
  ·have e:mayP p=(within p.id 1 65535&&true):=by unfold mayP;simp[hk]
   rw[e];exact pk_mayList 212 (b 5) (true) p h W (enters_of func212 (by kernel_rfl) rfl) (ShK.at' hsh hk (by decide) (by decide)).may (fun W1 _=>pk_mayAns _ W1)
  have e:aloneP p={zPk 5 with id:=p.id}:=by unfold aloneP;simp[hk]
  rw[e];exact(pk_hasList 211 (b 5) p h ((zPk 0)) h3Z W (enters_of func211 (by kernel_rfl) rfl) (ShK.at' hsh hk (by decide) (by decide)).has (fun W1=>pk_hasAns p h W1)).mono fun e w' ⟨he,hb⟩=>⟨_,_,he,by rw[hk];rfl,fun W' hW=>In.z W' _ ⟨rfl,rfl,rfl⟩,hb⟩
 ·refine⟨183,#[.pointer (some ⟨b 6+2,0,none⟩)],184,#[.pointer (some ⟨b 6+1,0,none⟩)],_,_,_,rfl,enters_of func183 (by kernel_rfl) rfl,enters_of func184 (by kernel_rfl) rfl,fun W hin hsh=>?_,fun W hsh=>?_⟩
  ·have e:mayP p=(within p.id 1 65535&&true):=by unfold mayP;simp[hk]
   rw[e];exact pk_mayList 212 (b 6) (true) p h W (enters_of func212 (by kernel_rfl) rfl) (ShK.at' hsh hk (by decide) (by decide)).may (fun W1 _=>pk_mayAns _ W1)
  have e:aloneP p={zPk 6 with id:=p.id}:=by unfold aloneP;simp[hk]
  rw[e];exact(pk_hasList 211 (b 6) p h ((zPk 0)) h3Z W (enters_of func211 (by kernel_rfl) rfl) (ShK.at' hsh hk (by decide) (by decide)).has (fun W1=>pk_hasAns p h W1)).mono fun e w' ⟨he,hb⟩=>⟨_,_,he,by rw[hk];rfl,fun W' hW=>In.z W' _ ⟨rfl,rfl,rfl⟩,hb⟩
 ·refine⟨183,#[.pointer (some ⟨b 7+2,0,none⟩)],184,#[.pointer (some ⟨b 7+1,0,none⟩)],_,_,_,rfl,enters_of func183 (by kernel_rfl) rfl,enters_of func184 (by kernel_rfl) rfl,fun W hin hsh=>?_,fun W hsh=>?_⟩
  ·have e:mayP p=(within p.id 1 65535&&true):=by unfold mayP;simp[hk]
   rw[e];exact pk_mayList 212 (b 7) (true) p h W (enters_of func212 (by kernel_rfl) rfl) (ShK.at' hsh hk (by decide) (by decide)).may (fun W1 _=>pk_mayAns _ W1)
  have e:aloneP p={zPk 7 with id:=p.id}:=by unfold aloneP;simp[hk]
  rw[e];exact(pk_hasList 211 (b 7) p h ((zPk 0)) h3Z W (enters_of func211 (by kernel_rfl) rfl) (ShK.at' hsh hk (by decide) (by decide)).has (fun W1=>pk_hasAns p h W1)).mono fun e w' ⟨he,hb⟩=>⟨_,_,he,by rw[hk];rfl,fun W' hW=>In.z W' _ ⟨rfl,rfl,rfl⟩,hb⟩
 ·refine⟨183,#[.pointer (some ⟨b 8+2,0,none⟩)],184,#[.pointer (some ⟨b 8+1,0,none⟩)],_,_,_,rfl,enters_of func183 (by kernel_rfl) rfl,enters_of func184 (by kernel_rfl) rfl,fun W hin hsh=>?_,fun W hsh=>?_⟩
  ·have e:mayP p=(within p.id 1 65535&&fitL p.wants mayWant):=by unfold mayP;simp[hk]
   rw[e];exact pk_mayList 132 (b 8) (fitL p.wants mayWant) p h W (enters_of func132 (by kernel_rfl) rfl) (ShK.at' hsh hk (by decide) (by decide)).may (fun W1 hb1=>pk_maySub p h W1 (hin.below hb1).lw hfw.1)
  have e:aloneP p={zPk 8 with id:=p.id,wants:=p.wants}:=by unfold aloneP;simp[hk]
  rw[e];exact(pk_hasList 131 (b 8) p h ({zPk 0 with wants:=p.wants}) ⟨h.w,hdZ,hdZ⟩ W (enters_of func131 (by kernel_rfl) rfl) (ShK.at' hsh hk (by decide) (by decide)).has (fun W1=>pk_hasSub p h W1)).mono fun e w' ⟨he,hb⟩=>⟨_,_,he,by rw[hk];rfl,fun W' hW=>⟨hW.lw,LsAt.nil W',LsAt.nil W'⟩,hb⟩
 ·refine⟨183,#[.pointer (some ⟨b 9+2,0,none⟩)],184,#[.pointer (some ⟨b 9+1,0,none⟩)],_,_,_,rfl,enters_of func183 (by kernel_rfl) rfl,enters_of func184 (by kernel_rfl) rfl,fun W hin hsh=>?_,fun W hsh=>?_⟩
  ·have e:mayP p=(within p.id 1 65535&&fitL p.codes mayCode):=by unfold mayP;simp[hk]
   rw[e];exact pk_mayList 143 (b 9) (fitL p.codes mayCode) p h W (enters_of func143 (by kernel_rfl) rfl) (ShK.at' hsh hk (by decide) (by decide)).may (fun W1 hb1=>pk_maySua p h W1 (hin.below hb1).lc (fun _ _=>trivial))
  have e:aloneP p={zPk 9 with id:=p.id,codes:=p.codes}:=by unfold aloneP;simp[hk]
  rw[e];exact(pk_hasList 142 (b 9) p h ({zPk 0 with codes:=p.codes}) ⟨hdZ,h.c,hdZ⟩ W (enters_of func142 (by kernel_rfl) rfl) (ShK.at' hsh hk (by decide) (by decide)).has (fun W1=>pk_hasSua p h W1)).mono fun e w' ⟨he,hb⟩=>⟨_,_,he,by rw[hk];rfl,fun W' hW=>⟨LsAt.nil W',hW.lc,LsAt.nil W'⟩,hb⟩
 ·refine⟨183,#[.pointer (some ⟨b 10+2,0,none⟩)],184,#[.pointer (some ⟨b 10+1,0,none⟩)],_,_,_,rfl,enters_of func183 (by kernel_rfl) rfl,enters_of func184 (by kernel_rfl) rfl,fun W hin hsh=>?_,fun W hsh=>?_⟩
  ·have e:mayP p=(within p.id 1 65535&&fitL p.filters filterR):=by unfold mayP;simp[hk]
   rw[e];exact pk_mayList 151 (b 10) (fitL p.filters filterR) p h W (enters_of func151 (by kernel_rfl) rfl) (ShK.at' hsh hk (by decide) (by decide)).may (fun W1 hb1=>pk_mayUns p h W1 (hin.below hb1).lf hfw.2)
  have e:aloneP p={zPk 10 with id:=p.id,filters:=p.filters}:=by unfold aloneP;simp[hk]
  rw[e];exact(pk_hasList 150 (b 10) p h ({zPk 0 with filters:=p.filters}) ⟨hdZ,hdZ,h.f⟩ W (enters_of func150 (by kernel_rfl) rfl) (ShK.at' hsh hk (by decide) (by decide)).has (fun W1=>pk_hasUns p h W1)).mono fun e w' ⟨he,hb⟩=>⟨_,_,he,by rw[hk];rfl,fun W' hW=>⟨LsAt.nil W',LsAt.nil W',hW.lf⟩,hb⟩
 ·refine⟨183,#[.pointer (some ⟨b 11+2,0,none⟩)],184,#[.pointer (some ⟨b 11+1,0,none⟩)],_,_,_,rfl,enters_of func183 (by kernel_rfl) rfl,enters_of func184 (by kernel_rfl) rfl,fun W hin hsh=>?_,fun W hsh=>?_⟩
  ·have e:mayP p=(within p.id 1 65535&&true):=by unfold mayP;simp[hk]
   rw[e];exact pk_mayList 212 (b 11) (true) p h W (enters_of func212 (by kernel_rfl) rfl) (ShK.at' hsh hk (by decide) (by decide)).may (fun W1 _=>pk_mayAns _ W1)
  have e:aloneP p={zPk 11 with id:=p.id}:=by unfold aloneP;simp[hk]
  rw[e];exact(pk_hasList 211 (b 11) p h ((zPk 0)) h3Z W (enters_of func211 (by kernel_rfl) rfl) (ShK.at' hsh hk (by decide) (by decide)).has (fun W1=>pk_hasAns p h W1)).mono fun e w' ⟨he,hb⟩=>⟨_,_,he,by rw[hk];rfl,fun W' hW=>In.z W' _ ⟨rfl,rfl,rfl⟩,hb⟩
 ·refine⟨120,#[],121,#[],_,_,_,rfl,enters_of func120 (by kernel_rfl) rfl,enters_of func121 (by kernel_rfl) rfl,fun W hin hsh=>?_,fun W hsh=>?_⟩
  ·have e:mayP p=true:=by unfold mayP;simp[hk]
   rw[e];exact pk_mayEmp _ W
  have e:aloneP p=zPk 12:=by unfold aloneP;simp[hk]
  rw[e];exact(pk_hasEmp p h W).mono fun e w' ⟨he,hb⟩=>⟨_,_,he,by rw[hk];rfl,fun W' hW=>In.z W' _ ⟨rfl,rfl,rfl⟩,hb⟩
 ·refine⟨120,#[],121,#[],_,_,_,rfl,enters_of func120 (by kernel_rfl) rfl,enters_of func121 (by kernel_rfl) rfl,fun W hin hsh=>?_,fun W hsh=>?_⟩
  ·have e:mayP p=true:=by unfold mayP;simp[hk]
   rw[e];exact pk_mayEmp _ W
  have e:aloneP p=zPk 13:=by unfold aloneP;simp[hk]
  rw[e];exact(pk_hasEmp p h W).mono fun e w' ⟨he,hb⟩=>⟨_,_,he,by rw[hk];rfl,fun W' hW=>In.z W' _ ⟨rfl,rfl,rfl⟩,hb⟩
 skip;refine⟨120,#[],121,#[],_,_,_,rfl,enters_of func120 (by kernel_rfl) rfl,enters_of func121 (by kernel_rfl) rfl,fun W hin hsh=>?_,fun W hsh=>?_⟩
 ·have e:mayP p=true:=by unfold mayP;simp[hk]
  rw[e];exact pk_mayEmp _ W
 have e:aloneP p=zPk 14:=by unfold aloneP;simp[hk]
 rw[e];exact(pk_hasEmp p h W).mono fun e w' ⟨he,hb⟩=>⟨_,_,he,by rw[hk];rfl,fun W' hW=>In.z W' _ ⟨rfl,rfl,rfl⟩,hb⟩
def FlagDo(b:Nat->Nat)(p:Pk)(h:H3)(g:Value):Prop:=(g=.nilFunc/\flagN p=0)\/∃f c,g=fnV f c/\fnC f/\∀W,ShK b p.kind.toNat W->Calls prog f (#[.agg (p.cells h).toArray]++c) W fun e w'=>e=.returned (.int .i64 (flagN p))/\Below W.heap.size W w'
def WrDo(b:Nat->Nat)(p:Pk)(h:H3)(m:List UInt8)(g:Value):Prop:=(g=.nilFunc/\m=[])\/∃f c,g=fnV f c/\fnC f/\∀W F q,ShK b p.kind.toNat W->p.In W h->Wr W F q []->(∀k:Nat,4<=k->k<=11->b k+3∉F)->PkN W p h F->Calls prog f (#[.pointer (some ⟨q,0,none⟩),.agg (p.cells h).toArray]++c) W (PutR F q [] m W)
theorem body_nil{p:Pk}(h:rightP p)(hk:p.kind≠3):p.body=[]:=by
 rw[<-h.2];unfold aloneP;rw[if_neg hk]
 repeat' split
 all_goals rfl
theorem flag0{p:Pk}(h3:p.kind≠3)(h:p.kind≠6/\p.kind≠8/\p.kind≠10):flagN p=0:=by unfold flagN;rw[if_neg h3,if_neg (by omega)]
theorem flag2{p:Pk}(h:p.kind=6\/p.kind=8\/p.kind=10):flagN p=2:=by unfold flagN;rw[if_neg (by omega),if_pos h]
theorem pk_flList(fl:Int)(b:Nat)(v:Array Value)(W:World)(hb:Boxed W b 3 (.int .i64 fl)):Calls prog 185 #[.agg v,.pointer (some ⟨b,0,none⟩)] W fun e w'=>e=.returned (.int .i64 fl)/\Below W.heap.size W w':=by
 have b0:Below W.heap.size W (W.alloc (.cells v 52)):=bel_refl.alloc nat_le_rfl _;have k0:=(boxed_below hb b0).cell;have B0:=hid b0;clear hb b0;go_enter func185,ntmps185;go_wp2_with fail
 go_ret;exact⟨rfl,B0.out⟩
theorem want_good{p:Pk}(h:rightP p)(hk:p.kind=8):p.wants.length<=1000/\∀x∈p.wants,x.filter.length<=65535/\0<=x.qos/\x.qos<256:=by have h1:=h.1;unfold mayP at h1;rw[if_neg (by omega),if_neg (by omega),if_neg (by omega),if_pos hk,Bool.and_eq_true]at h1;refine⟨by have:=h1.2;unfold fitL at this;simp at this;omega,fun x hx=>?_⟩;have h2:=fitL_all h1.2 x hx;unfold mayWant at h2;rw[Bool.and_eq_true]at h2;have a:=filterR_len h2.1;have c:=within_iff.1 h2.2;omega
theorem code_good{p:Pk}(h:rightP p)(hk:p.kind=9):p.codes.length<=1000/\∀x∈p.codes,0<=x/\x<256:=by
 have h1:=h.1;unfold mayP at h1;rw[if_neg (by omega),if_neg (by omega),if_neg (by omega),if_neg (by omega),if_pos hk,Bool.and_eq_true]at h1;refine⟨by have:=h1.2;unfold fitL at this;simp at this;omega,fun x hx=>?_⟩;have h2:=fitL_all h1.2 x hx;unfold mayCode at h2;rw[Bool.or_eq_true]at h2;rcases h2 with h2 | h2
 ·have c:=within_iff.1 h2;omega
 have:=of_decide_eq_true h2;omega
theorem fil_good{p:Pk}(h:rightP p)(hk:p.kind=10):p.filters.length<=1000/\∀x∈p.filters,x.length<=65535:=by have h1:=h.1;unfold mayP at h1;rw[if_neg (by omega),if_neg (by omega),if_neg (by omega),if_neg (by omega),if_neg (by omega),if_pos hk,Bool.and_eq_true]at h1;refine⟨by have:=h1.2;unfold fitL at this;simp at this;omega,fun x hx=>?_⟩;have a:=filterR_len (fitL_all h1.2 x hx);omega
theorem may_id{p:Pk}(h:rightP p)(hk:4<=p.kind/\p.kind<=11):1<=p.id/\p.id<=65535:=by
 have h1:=h.1;unfold mayP at h1;rw[if_neg (by omega),if_neg (by omega),if_neg (by omega)]at h1;have hw:within p.id 1 65535=true:=by
  repeat' split at h1
  all_goals first
   | exact h1
   | (rw[Bool.and_eq_true]at h1;exact h1.1)
   | omega
 exact within_iff.1 hw
theorem pk_fw(b:Nat->Nat)(p:Pk)(h:H3)(hr:rightP p)(k:Nat)(hk:p.kind=(k:Int))(hk1:1<=k/\k<=14):∃g1 g2 g3 g4 g5 m,shpV b k=.agg #[g1,g2,g3,g4,g5]/\FlagDo b p h g3/\WrDo b p h m g4/\bodyP p=m++p.body:=by
 have hbl:=bodyP_len hr;have hm:=hr.1;have:k=1\/k=2\/k=3\/k=4\/k=5\/k=6\/k=7\/k=8\/k=9\/k=10\/k=11\/k=12\/k=13\/k=14:=by omega
 rcases this with rfl | rfl | rfl | rfl | rfl | rfl | rfl | rfl | rfl | rfl | rfl | rfl | rfl | rfl
 ·have hc:mayC p=true:=by rw[<-hm];unfold mayP;rw[if_pos (show p.kind=1 from hk)]
  obtain⟨a1,a2,a3,a4,a5⟩:=mayC_parts hc;have hq:0<=p.will.qos/\p.will.qos<=2:=by
   rcases a3 with⟨-,e⟩ | ⟨-, -, -,e⟩
   ·rw[e];exact⟨by decide,by decide⟩
   exact e
  have hcn:connN p<256:=by have:=(has_bits p.hasUser p.hasPass p.will.retain p.hasWill p.clean p.will.qos.toNat (by omega)).2.2.2.2.2.2;exact this
  have hcl:=saidN_len a1;have hx:∀x∈itemsC p,x.2.length<=65535:=by
   have t1:p.will.topic.length<=65535:=by
    rcases a3 with⟨-,e⟩ | ⟨-,e, -⟩
    ·rw[e];decide
    have:=nameR_len e;omega
   have t2:p.will.body.length<=65535:=by
    rcases a3 with⟨-,e⟩ | ⟨-, -,e, -⟩
    ·rw[e];decide
    omega
   have t3:p.user.length<=65535:=by
    rcases a4 with⟨-,e⟩ | ⟨-,e⟩
    ·have:=saidN_len e;omega
    rw[e];decide
   have t4:p.pass.length<=65535:=by
    rcases a5 with⟨-,e⟩ | ⟨-,e⟩
    ·omega
    rw[e];decide
   intro x hx;simp only[itemsC,List.mem_cons,List.not_mem_nil,or_false]at hx;rcases hx with rfl | rfl | rfl | rfl<;>assumption
  have hbo:=bodyC_eq p hk;refine⟨_,_,_,_,_,headC p++(itemsC p).flatMap itemB,rfl,.inl ⟨rfl,flag0 (by omega) (by omega)⟩,.inr ⟨201,#[],rfl,enters_of func201 (by kernel_rfl) rfl,fun W F q hsh hin hW hoff hN=>?_⟩,by rw[hbo,body_nil hr (by omega),List.append_nil]⟩;exact pk_writeCon p h hW hcn (by omega) (by omega) (by omega) hx (by rw[hbo,List.length_append]at hbl;simp only[List.length_nil];omega)
 ·have hc:mayA p=true:=by rw[<-hm];unfold mayP;rw[if_neg (by omega),if_pos (show p.kind=2 from hk)]
  have hcd:0<=p.code/\p.code<=5:=by unfold mayA at hc;rw[Bool.and_eq_true]at hc;exact within_iff.1 hc.1
  refine⟨_,_,_,_,_,numB 1 (bitN p.present 1)++numB 1 p.code.toNat,rfl,.inl ⟨rfl,flag0 (by omega) (by omega)⟩,.inr ⟨126,#[],rfl,enters_of func126 (by kernel_rfl) rfl,fun W F q hsh hin hW hoff hN=>?_⟩,by rw[bodyP_2 hk,body_nil hr (by omega),List.append_nil]⟩;exact pk_writeAck p h hW (by omega) (by decide)
 ·have hc:mayPub p=true:=by rw[<-hm];unfold mayP;rw[if_neg (by omega),if_neg (by omega),if_pos (show p.kind=3 from hk)]
  unfold mayPub at hc;rw[Bool.and_eq_true,Bool.and_eq_true,Bool.and_eq_true]at hc;have hq:=within_iff.1 hc.1.2;have ht:=nameR_len hc.1.1.1;have hi:0<p.qos->0<=p.id/\p.id<65536:=fun h0=>by
   have h9:=hc.2;rw[Bool.or_eq_true]at h9;rcases h9 with h9 | h9
   ·rw[Bool.and_eq_true,Bool.and_eq_true]at h9;have:=of_decide_eq_true h9.1.1;omega
   rw[Bool.and_eq_true]at h9;have:=within_iff.1 h9.2;omega
  refine⟨_,_,_,_,_,txtB p.topic++(if 0<p.qos then numB 2 p.id.toNat else[]),rfl,.inr ⟨206,#[],rfl,enters_of func206 (by kernel_rfl) rfl,fun W _=>pk_pubFlags p h W hk (by omega)⟩,.inr ⟨208,#[],rfl,enters_of func208 (by kernel_rfl) rfl,fun W F q hsh hin hW hoff hN=>?_⟩,by rw[bodyP_3 hk,List.append_assoc]⟩;exact pk_writePub p h hW (by omega) hi (by simp only[List.length_nil];omega)
 ·refine⟨_,_,_,_,_,(numB 2 p.id.toNat++[]),rfl,.inr ⟨185,#[.pointer (some ⟨b 4,0,none⟩)],rfl,enters_of func185 (by kernel_rfl) rfl,fun W hsh=>?_⟩,.inr ⟨186,#[.pointer (some ⟨b 4+3,0,none⟩)],rfl,enters_of func186 (by kernel_rfl) rfl,fun W F q hsh hin hW hoff hN=>?_⟩,?_⟩
  ·refine(pk_flList 0 (b 4) _ W (ShK.at' hsh hk (by decide) (by decide)).fl).mono fun e w' ⟨he,hb⟩=>⟨?_,hb⟩;rw[he,flag0 (by omega) (by omega)];rfl
  ·have hid:=may_id hr (by omega);exact pk_writeList 213 (b 4) [] p h (enters_of func213 (by kernel_rfl) rfl) hW (ShK.at' hsh hk (by decide) (by decide)).wr (hoff 4 (by decide) (by decide)) (by omega) (by decide) (fun W1 F1 hs1 hW1=>pk_writeAns _ hW1)
  rw[bodyP_i (by omega) (by omega) (by omega) (by omega),body_nil hr (by omega)];simp
 ·refine⟨_,_,_,_,_,(numB 2 p.id.toNat++[]),rfl,.inr ⟨185,#[.pointer (some ⟨b 5,0,none⟩)],rfl,enters_of func185 (by kernel_rfl) rfl,fun W hsh=>?_⟩,.inr ⟨186,#[.pointer (some ⟨b 5+3,0,none⟩)],rfl,enters_of func186 (by kernel_rfl) rfl,fun W F q hsh hin hW hoff hN=>?_⟩,?_⟩
  ·refine(pk_flList 0 (b 5) _ W (ShK.at' hsh hk (by decide) (by decide)).fl).mono fun e w' ⟨he,hb⟩=>⟨?_,hb⟩;rw[he,flag0 (by omega) (by omega)];rfl
  ·have hid:=may_id hr (by omega);exact pk_writeList 213 (b 5) [] p h (enters_of func213 (by kernel_rfl) rfl) hW (ShK.at' hsh hk (by decide) (by decide)).wr (hoff 5 (by decide) (by decide)) (by omega) (by decide) (fun W1 F1 hs1 hW1=>pk_writeAns _ hW1)
  rw[bodyP_i (by omega) (by omega) (by omega) (by omega),body_nil hr (by omega)];simp
 ·refine⟨_,_,_,_,_,(numB 2 p.id.toNat++[]),rfl,.inr ⟨185,#[.pointer (some ⟨b 6,0,none⟩)],rfl,enters_of func185 (by kernel_rfl) rfl,fun W hsh=>?_⟩,.inr ⟨186,#[.pointer (some ⟨b 6+3,0,none⟩)],rfl,enters_of func186 (by kernel_rfl) rfl,fun W F q hsh hin hW hoff hN=>?_⟩,?_⟩
  ·refine(pk_flList 2 (b 6) _ W (ShK.at' hsh hk (by decide) (by decide)).fl).mono fun e w' ⟨he,hb⟩=>⟨?_,hb⟩;rw[he,flag2 (by omega)];rfl
  ·have hid:=may_id hr (by omega);exact pk_writeList 213 (b 6) [] p h (enters_of func213 (by kernel_rfl) rfl) hW (ShK.at' hsh hk (by decide) (by decide)).wr (hoff 6 (by decide) (by decide)) (by omega) (by decide) (fun W1 F1 hs1 hW1=>pk_writeAns _ hW1)
  rw[bodyP_i (by omega) (by omega) (by omega) (by omega),body_nil hr (by omega)];simp
 ·refine⟨_,_,_,_,_,(numB 2 p.id.toNat++[]),rfl,.inr ⟨185,#[.pointer (some ⟨b 7,0,none⟩)],rfl,enters_of func185 (by kernel_rfl) rfl,fun W hsh=>?_⟩,.inr ⟨186,#[.pointer (some ⟨b 7+3,0,none⟩)],rfl,enters_of func186 (by kernel_rfl) rfl,fun W F q hsh hin hW hoff hN=>?_⟩,?_⟩
  ·refine(pk_flList 0 (b 7) _ W (ShK.at' hsh hk (by decide) (by decide)).fl).mono fun e w' ⟨he,hb⟩=>⟨?_,hb⟩;rw[he,flag0 (by omega) (by omega)];rfl
  ·have hid:=may_id hr (by omega);exact pk_writeList 213 (b 7) [] p h (enters_of func213 (by kernel_rfl) rfl) hW (ShK.at' hsh hk (by decide) (by decide)).wr (hoff 7 (by decide) (by decide)) (by omega) (by decide) (fun W1 F1 hs1 hW1=>pk_writeAns _ hW1)
  rw[bodyP_i (by omega) (by omega) (by omega) (by omega),body_nil hr (by omega)];simp
 ·refine⟨_,_,_,_,_,(numB 2 p.id.toNat++(p.wants.flatMap wantB)),rfl,.inr ⟨185,#[.pointer (some ⟨b 8,0,none⟩)],rfl,enters_of func185 (by kernel_rfl) rfl,fun W hsh=>?_⟩,.inr ⟨186,#[.pointer (some ⟨b 8+3,0,none⟩)],rfl,enters_of func186 (by kernel_rfl) rfl,fun W F q hsh hin hW hoff hN=>?_⟩,?_⟩
  ·refine(pk_flList 2 (b 8) _ W (ShK.at' hsh hk (by decide) (by decide)).fl).mono fun e w' ⟨he,hb⟩=>⟨?_,hb⟩;rw[he,flag2 (by omega)];rfl
  ·have hid:=may_id hr (by omega);exact pk_writeList 137 (b 8) (p.wants.flatMap wantB) p h (enters_of func137 (by kernel_rfl) rfl) hW (ShK.at' hsh hk (by decide) (by decide)).wr (hoff 8 (by decide) (by decide)) (by omega) (by decide) (fun W1 F1 hs1 hW1=>pk_writeWan p h hW1 (hN.step hs1.wrote (fun c hc=>.inl hc) hs1.sub).lw (want_good hr hk).1 (want_good hr hk).2 (by have h9:=hbl;rw[bodyP_8 hk]at h9;rw[List.length_append]at h9 ⊢;simp only[List.length_nil];omega))
  rw[bodyP_8 hk,body_nil hr (by omega)];simp
 ·refine⟨_,_,_,_,_,(numB 2 p.id.toNat++(p.codes.flatMap fun c=>numB 1 c.toNat)),rfl,.inr ⟨185,#[.pointer (some ⟨b 9,0,none⟩)],rfl,enters_of func185 (by kernel_rfl) rfl,fun W hsh=>?_⟩,.inr ⟨186,#[.pointer (some ⟨b 9+3,0,none⟩)],rfl,enters_of func186 (by kernel_rfl) rfl,fun W F q hsh hin hW hoff hN=>?_⟩,?_⟩
  ·refine(pk_flList 0 (b 9) _ W (ShK.at' hsh hk (by decide) (by decide)).fl).mono fun e w' ⟨he,hb⟩=>⟨?_,hb⟩;rw[he,flag0 (by omega) (by omega)];rfl
  ·have hid:=may_id hr (by omega);exact pk_writeList 146 (b 9) (p.codes.flatMap fun c=>numB 1 c.toNat) p h (enters_of func146 (by kernel_rfl) rfl) hW (ShK.at' hsh hk (by decide) (by decide)).wr (hoff 9 (by decide) (by decide)) (by omega) (by decide) (fun W1 F1 hs1 hW1=>pk_writeCod p h hW1 (hN.step hs1.wrote (fun c hc=>.inl hc) hs1.sub).lc (code_good hr hk).1 (code_good hr hk).2 (by have h9:=hbl;rw[bodyP_9 hk]at h9;rw[List.length_append]at h9 ⊢;simp only[List.length_nil];omega))
  rw[bodyP_9 hk,body_nil hr (by omega)];simp
 ·refine⟨_,_,_,_,_,(numB 2 p.id.toNat++(p.filters.flatMap txtB)),rfl,.inr ⟨185,#[.pointer (some ⟨b 10,0,none⟩)],rfl,enters_of func185 (by kernel_rfl) rfl,fun W hsh=>?_⟩,.inr ⟨186,#[.pointer (some ⟨b 10+3,0,none⟩)],rfl,enters_of func186 (by kernel_rfl) rfl,fun W F q hsh hin hW hoff hN=>?_⟩,?_⟩
  ·refine(pk_flList 2 (b 10) _ W (ShK.at' hsh hk (by decide) (by decide)).fl).mono fun e w' ⟨he,hb⟩=>⟨?_,hb⟩;rw[he,flag2 (by omega)];rfl
  ·have hid:=may_id hr (by omega);exact pk_writeList 153 (b 10) (p.filters.flatMap txtB) p h (enters_of func153 (by kernel_rfl) rfl) hW (ShK.at' hsh hk (by decide) (by decide)).wr (hoff 10 (by decide) (by decide)) (by omega) (by decide) (fun W1 F1 hs1 hW1=>pk_writeFil p h hW1 (hN.step hs1.wrote (fun c hc=>.inl hc) hs1.sub).lf (fil_good hr hk).1 (fil_good hr hk).2 (by have h9:=hbl;rw[bodyP_10 hk]at h9;rw[List.length_append]at h9 ⊢;simp only[List.length_nil];omega))
  rw[bodyP_10 hk,body_nil hr (by omega)];simp
 ·refine⟨_,_,_,_,_,(numB 2 p.id.toNat++[]),rfl,.inr ⟨185,#[.pointer (some ⟨b 11,0,none⟩)],rfl,enters_of func185 (by kernel_rfl) rfl,fun W hsh=>?_⟩,.inr ⟨186,#[.pointer (some ⟨b 11+3,0,none⟩)],rfl,enters_of func186 (by kernel_rfl) rfl,fun W F q hsh hin hW hoff hN=>?_⟩,?_⟩
  ·refine(pk_flList 0 (b 11) _ W (ShK.at' hsh hk (by decide) (by decide)).fl).mono fun e w' ⟨he,hb⟩=>⟨?_,hb⟩;rw[he,flag0 (by omega) (by omega)];rfl
  ·have hid:=may_id hr (by omega);exact pk_writeList 213 (b 11) [] p h (enters_of func213 (by kernel_rfl) rfl) hW (ShK.at' hsh hk (by decide) (by decide)).wr (hoff 11 (by decide) (by decide)) (by omega) (by decide) (fun W1 F1 hs1 hW1=>pk_writeAns _ hW1)
  rw[bodyP_i (by omega) (by omega) (by omega) (by omega),body_nil hr (by omega)];simp
 ·exact⟨_,_,_,_,_,[],rfl,.inl ⟨rfl,flag0 (by omega) (by omega)⟩,.inl ⟨rfl,rfl⟩,by rw[bodyP_0 (by omega) (by omega) (by omega) (by omega) (by omega) (by omega) (by omega),body_nil hr (by omega)];rfl⟩
 ·exact⟨_,_,_,_,_,[],rfl,.inl ⟨rfl,flag0 (by omega) (by omega)⟩,.inl ⟨rfl,rfl⟩,by rw[bodyP_0 (by omega) (by omega) (by omega) (by omega) (by omega) (by omega) (by omega),body_nil hr (by omega)];rfl⟩
 exact⟨_,_,_,_,_,[],rfl,.inl ⟨rfl,flag0 (by omega) (by omega)⟩,.inl ⟨rfl,rfl⟩,by rw[bodyP_0 (by omega) (by omega) (by omega) (by omega) (by omega) (by omega) (by omega),body_nil hr (by omega)];rfl⟩
def zSh:Array Value:=#[.nilFunc,.nilFunc,.nilFunc,.nilFunc,.nilFunc]
theorem look_sh{w:World}{m:Nat}{b:Nat->Nat}(h:IM .i64 w m (shapeG b))(k:Int)(c:Bool):(Instr.lookup 152 (.map (some m)) (.int .i64 k) c).run prog w=.ok (if c then .tuple #[(shapeG b k).getD (.agg zSh),.bool (shapeG b k).isSome]else(shapeG b k).getD (.agg zSh)) w:=
 run_lookup_im 152 45 150 underlying152 underlying45 h (.agg zSh) (by kernel_rfl) k c
theorem shapeG_agg(b:Nat->Nat)(k:Int):∃g1 g2 g3 g4 g5,(shapeG b k).getD (.agg zSh)=.agg #[g1,g2,g3,g4,g5]/\(∀v∈#[g1,g2,g3,g4,g5].toList,v.oneCell'=true)/\((shapeG b k).isSome=true->shapeG b k=some (.agg #[g1,g2,g3,g4,g5])):=by
 unfold shapeG;split
 ·rename_i h;have:k=1\/k=2\/k=3\/k=4\/k=5\/k=6\/k=7\/k=8\/k=9\/k=10\/k=11\/k=12\/k=13\/k=14:=by omega
  rcases this with rfl | rfl | rfl | rfl | rfl | rfl | rfl | rfl | rfl | rfl | rfl | rfl | rfl | rfl
  all_goals exact⟨_,_,_,_,_,rfl,by simp[fnV,ptrV,Value.oneCell'],fun _=>rfl⟩
 exact⟨_,_,_,_,_,rfl,by simp[Value.oneCell'],by simp⟩
theorem shapeG_none{b:Nat->Nat}{k:Int}(h:shapeG b k=none):¬(1<=k/\k<=14):=fun h'=>by unfold shapeG at h;rw[if_pos h']at h;cases h
theorem shapeG_some{b:Nat->Nat}{k:Int}{v:Value}(h:shapeG b k=some v):∃n:Nat,k=n/\(1<=n/\n<=14)/\shpV b n=v:=by
 unfold shapeG at h;split at h
 ·rename_i h';exact⟨k.toNat,by omega,by omega,by cases h;rfl⟩
 cases h
structure ShAt (w:World)(pc:Array Value)(p:Pk)(kb:Nat)(g1 g2 g3 g4 g5:Value)(is:Bool)(W:World):Prop where
 below:Below w.heap.size w W
 pack:Blk W w.heap.size pc 52
 kind:Blk W kb #[g1,g2,g3,g4,g5] 150
 none:is=false->¬(1<=p.kind/\p.kind<=14)
 some:is=true->∃b,shapeG b p.kind=some (.agg #[g1,g2,g3,g4,g5])/\∀k,4<=k->k<=11->LiAt b k W
theorem pk_Check(p:Pk)(h:H3)(hs:PkS p)(hfw:(∀x∈p.wants,x.filter.length<=2000000)/\∀x∈p.filters,x.length<=2000000):CheckOK p h:=fun w hin=>by
 obtain⟨pc,hpc⟩:=gen_of ((p.cells h).toArray);obtain⟨W0,hW0⟩:=gen_of (w.alloc (.cells pc 52));have hb0:Hid (Below w.heap.size w W0):=hid (by rw[<-hW0];exact bel_refl.alloc nat_le_rfl _);have P0:Hid (Blk W0 w.heap.size pc 52):=hid (by rw[<-hW0];exact Blk.new _ _ _);have ic:Hid ((prog.info? 52).map (·.size)=some pc.size):=hid (by rw[<-hpc];exact(by kernel_rfl:(prog.info? 52).map (·.size)=some 24));obtain⟨kd,hkd⟩:=gen_of p.kind;have kc:Hid (∀W,Blk W w.heap.size pc 52->W.cell? ⟨w.heap.size,0,none⟩=some (.int .i64 kd)):=hid fun W hb=>by rw[hb.cell,<-hpc,<-hkd];rfl
 have hkd:=hid hkd;rw[hpc];have hpc:=hid hpc;have HI:=hid hin;obtain⟨Q,hQ⟩:=gen_of (rightP p:Prop);rw[hQ];have hQ:=hid hQ;have DO:=hid (fun b k hk hk1=>pk_do b p h hs hfw k hk hk1);clear hin hs hfw;go_enter func51,ntmps51;go_upto_region 1 with fail
 clear hW0;try simp only[PT]
 go_cut [3,4]from 5 (fun s3 s4 wx=>∃(kb:Nat)(g1 g2 g3 g4 g5:Value)(is:Bool),s3=.pointer (some ⟨kb,0,none⟩)/\s4=.bool is/\Hid (ShAt w pc p kb g1 g2 g3 g4 g5 is wx))
 case first=>
  have BW5:Below w.heap.size w W0.drew:=hb0.drew;have tW5:Blk W0.drew w.heap.size pc 52:=P0.out;refine regionQ [(1000,fun w'=>Blk w' w.heap.size pc 52)] (by kernel_rfl) ⟨tW5,trivial⟩ fun KQ hKQ=>?_;try simp only[PT]
  obtain⟨W5,hW5⟩:=gen_of W0.drew;rw[hW5]at BW5 tW5 ⊢;refine tQ [1] ?_;refine loadQ 2 rfl (by kernel_rfl) (by kernel_rfl) rfl rfl 0 rfl (by kernel_rfl) (.int .i64 kd) (fun w' hf=>by(have k0:=kc _ hf;go_simp<;>with_reducible rfl)) ?_;simp only[PT];refine stepM [0,7] (fun j hj=>?_);have hj:j=0\/j=7:=by simpa using hj
  rcases hj with rfl | rfl
  ·refine⟨⟨_,rfl,by kernel_rfl,fun K hK=>?_⟩⟩;go_simp;refine(pk_shapes _).mono ?_;rintro e w6 ⟨m,b,rfl,⟨hm,hc⟩,hb6⟩;have ht6:=tW5.below hb6;obtain⟨g1,g2,g3,g4,g5,hg,hone,hsome⟩:=shapeG_agg b kd;have hB6:=BW5.trans (hb6.mono BW5.size);refine hK _ _ ⟨⟨fun _=>ht6,trivial⟩,?_⟩;clear hK K;try simp only[PT]
   refine atR_more [(1000,fun w'=>Blk w' w.heap.size pc 52),(1000,fun w'=>IM .i64 w' m (shapeG b))] (by simp) ⟨fun _=>ht6,fun _=>hm,trivial⟩ ?_;refine lookQ 3 rfl (by kernel_rfl) (by kernel_rfl) rfl rfl rfl 1 rfl (by kernel_rfl) (.tuple #[.agg #[g1,g2,g3,g4,g5],.bool (shapeG b kd).isSome]) (fun w' hf=>(look_sh hf kd true).trans (by rw[hg];rfl)) ?_;try simp only[PT]
   refine tQ [4,5,6] ?_;obtain⟨is,his⟩:=gen_of ((shapeG b kd).isSome);rw[his];refine sQ 7 fun K hK=>?_;simp only[GO];go_simp;refine hK _ _ ⟨⟨fun _=>ht6.alloc _,fun _=>hm.alloc _,trivial⟩,?_⟩;clear hK K;try simp only[PT]
   refine sQ 8 fun K hK=>?_;simp only[GO];refine wW 150 5 rfl w6.heap.size zSh #[g1,g2,g3,g4,g5] rfl rfl (Blk.new _ _ _) rfl rfl hone fun w7 hw7 hr7=>?_;replace hr7:Wrote [w6.heap.size] (w6.alloc (.cells zSh 150)) w7:=hr7;have hs6:=hB6.size;have hz6:(w6.alloc (.cells zSh 150)).heap.size=w6.heap.size+1:=by simp
   have b67:Below w6.heap.size w6 w7:=(bel_refl.alloc nat_le_rfl _).trans (hr7.below (by simp) (by simp));have hb7:=hB6.trans (b67.mono hB6.size);have ht7:=ht6.below b67;have hm7:=hm.below b67;refine hK _ _ ⟨⟨fun _=>ht7,fun _=>hm7,trivial⟩,?_⟩;clear hK K;try simp only[PT]
   refine tQ [9] ?_;refine dQ (hKQ.out _ _ ?_);clear hKQ KQ;have hR:=hid (show ShAt w pc p w6.heap.size g1 g2 g3 g4 g5 is w7 from⟨hb7,ht7,hw7,fun h=>shapeG_none (b:=b) (by rw[hkd.out];rw[<-his]at h;exact Option.isSome_eq_false_iff.1 h |>Option.isNone_iff_eq_none.1),fun h=>⟨b,by rw[hkd.out];exact hsome (by rw[his,h]),fun k h4 h11=>LiB.below (hc k h4 h11) b67⟩⟩);go_wp2;go_meet
   case rel=>exact⟨_,_,_,_,_,_,_,rfl,rfl,hR⟩
  refine⟨⟨_,rfl,by kernel_rfl,fun K hK=>?_⟩⟩;go_simp;refine hK _ _ ⟨⟨fun _=>tW5.alloc _,trivial⟩,?_⟩;clear hK K;try simp only[PT]
  refine sQ 0 fun K hK=>?_;simp only[GO];go_simp;refine(pk_shapes _).mono ?_;rintro e w6 ⟨m,b,rfl,⟨hm,hc⟩,hb6⟩;have ht6:=(tW5.alloc (.cells zSh 150)).below hb6;have hk6:=(Blk.new W5 zSh 150).below hb6;obtain⟨g1,g2,g3,g4,g5,hg,hone,hsome⟩:=shapeG_agg b kd;have hs5:=BW5.size;have hz5:(W5.alloc (.cells zSh 150)).heap.size=W5.heap.size+1:=by simp
  have hB6:=(BW5.alloc hs5 (.cells zSh 150)).trans (hb6.mono (by simp;omega));have hb6s:W5.heap.size+1<=w6.heap.size:=by have:=hb6.size;simpa using this
  refine hK _ _ ⟨⟨fun _=>ht6,trivial⟩,?_⟩;clear hK K;try simp only[PT]
  refine atR_more [(1000,fun w'=>Blk w' w.heap.size pc 52),(1000,fun w'=>IM .i64 w' m (shapeG b))] (by simp) ⟨fun _=>ht6,fun _=>hm,trivial⟩ ?_;refine lookQ 3 rfl (by kernel_rfl) (by kernel_rfl) rfl rfl rfl 1 rfl (by kernel_rfl) (.tuple #[.agg #[g1,g2,g3,g4,g5],.bool (shapeG b kd).isSome]) (fun w' hf=>(look_sh hf kd true).trans (by rw[hg];rfl)) ?_;try simp only[PT]
  refine tQ [4,5,6] ?_;obtain⟨is,his⟩:=gen_of ((shapeG b kd).isSome);rw[his];refine sQ 8 fun K hK=>?_;simp only[GO];have hne:m≠W5.heap.size:=fun h=>by obtain⟨es,cl,h1, -⟩:=hm;have h2:w6.heap[W5.heap.size]?=_:=hk6;rw[h,h2]at h1;cases h1
  have hnb:∀(T:TypeId)(v:Value)(x:Nat),Boxed w6 x T v->x≠W5.heap.size:=fun T v x hx h=>by have h1:w6.heap[x]?=_:=hx;have h2:w6.heap[W5.heap.size]?=_:=hk6;rw[h,h2]at h1;cases h1
  refine wW 150 5 rfl W5.heap.size zSh #[g1,g2,g3,g4,g5] rfl rfl hk6 rfl rfl hone fun w7 hw7 hr7=>?_;have hb7:=hB6.trans (hr7.below (by have:=hB6.size;omega) (by simp;omega));have ht7:=ht6.keepW hr7 (by have:=tW5.lt;simp;omega);have hm7:=hm.wrote hr7 (by simpa using hne);refine hK _ _ ⟨⟨fun _=>ht7,fun _=>hm7,trivial⟩,?_⟩;clear hK K;try simp only[PT]
  refine tQ [9] ?_;refine dQ (hKQ.out _ _ ?_);clear hKQ KQ;have hR:=hid (show ShAt w pc p W5.heap.size g1 g2 g3 g4 g5 is w7 from⟨hb7,ht7,hw7,fun h=>shapeG_none (b:=b) (by rw[hkd.out];rw[<-his]at h;exact Option.isSome_eq_false_iff.1 h |>Option.isNone_iff_eq_none.1),fun h=>⟨b,by rw[hkd.out];exact hsome (by rw[his,h]),fun k h4 h11=>by have x:=hc k h4 h11;exact LiB.wrote x hr7 (by simpa using hnb _ _ _ x.fl) (by simpa using hnb _ _ _ x.has) (by simpa using hnb _ _ _ x.may) (by simpa using hnb _ _ _ x.wr) (by simpa using hnb _ _ _ x.rd)⟩⟩)
  go_wp2;go_meet
  case rel=>exact⟨_,_,_,_,_,_,_,rfl,rfl,hR⟩
 case rest=>
  obtain⟨kb,g1,g2,g3,g4,g5,is,rfl,rfl,hK⟩:=hcut;cases is with
  |false=>have hno:Hid (¬Q):=hid (by rw[<-hQ.out];exact fun h=>hK.out.none rfl (rightP_kind h));have HB:=hid hK.out.below;clear hK;go_wp2_with fail;go_ret;exact⟨2,rfl,iff_of_false (by decide) hno.out,HB.out⟩
  | true=>
   obtain⟨b,hkg,hL⟩:=hK.out.some rfl;obtain⟨n,hn,hn1,hv⟩:=shapeG_some hkg;obtain⟨f1,c1,f2,c2,g3',g4',g5',hv',hmh⟩:=DO b n hn hn1;rw[hv]at hv';simp only[Value.agg.injEq,Array.mk.injEq,List.cons.injEq,and_true]at hv';obtain⟨rfl,rfl,rfl,rfl,rfl⟩:=hv';have hL':ShK b p.kind.toNat wc:=fun h4 h11=>hL _ h4 h11;have k0:wc.cell? ⟨kb,0,none⟩=some (fnV f1 c1):=hK.out.kind.cell 0;have e1:=hmh.e1;have e2:=hmh.e2;unfold fnC at e1 e2;have CY:=hid (hmh.may wc (HI.below hK.out.below) hL');rw[hpc.out]at CY;have tm:=hK.out.pack;have HL:=hid hL';have hmh:=hid hmh;unfold fnV at k0;clear hkg hv hL hL' hn hn1;have tok:=hid trivial;go_wp2_with (clear tok;refine wLG 52 rfl rfl tm underlying52 rfl ?_ ic.out);refine CY.mono ?_;rintro e w8 ⟨rfl,hb8⟩;have HB8:=hid (hK.out.below.trans (hb8.mono hK.out.below.size));have ht8:=hK.out.pack.below hb8;have hk8:=hid (hK.out.kind.below hb8);have HL8:Hid (ShK b p.kind.toNat w8):=hid (fun h4 h11=>LiB.below (HL h4 h11) hb8);obtain⟨q,hq⟩:=gen_of (mayP p);rw[hq];have hq:=hid hq;clear hb8 tm k0 CY;cases q with
   |false=>
    have hno:Hid (¬Q):=hid (by rw[<-hQ.out];exact fun h=>by have:=h.1;rw[hq.out]at this;cases this);go_wp2_with fail
    go_ret;exact⟨2,rfl,iff_of_false (by decide) hno.out,HB8.out⟩
   | true=>
    have k1:w8.cell? ⟨kb,1,none⟩=some (fnV f2 c2):=hk8.cell 1;have CZ:=hid (hmh.has w8 HL8.out);rw[hpc.out]at CZ;unfold fnV at k1;clear hK hmh hk8;have tok:=hid trivial;go_wp2_with (clear tok;refine wL 52 rfl rfl ht8 underlying52 ?_ rfl rfl ic.out);refine CZ.mono ?_;rintro e w9 ⟨y,hy,rfl,hyk,hyi,hb9⟩;have HB9:=hid (HB8.trans (hb9.mono HB8.size));have HT9:=hid (ht8.below hb9);have hset:Hid ((y.cells hy).toArray.setIfInBounds 0 (.int .i64 kd)=(({y with kind:=kd}:Pk).cells hy).toArray):=hid rfl;obtain⟨yc,hyc⟩:=gen_of ((y.cells hy).toArray);have sy:Hid (yc.size=24):=hid (by rw[<-hyc];rfl);have oy:Hid (∀v∈yc.toList,v.oneCell'=true):=hid (by rw[<-hyc];exact Pk.one y hy);rw[hyc]at hset ⊢;have hyk:=hid hyk;have hyi:=hid hyi;have hyc:=hid hyc;clear hb9 ht8 k1 CZ;go_upto_region 5 with(refine wS 52 24 rfl _ _ _ rfl rfl (Blk.new _ _ _) sy.out (by rfl) oy.out ?_;intro w10 hw10 hr10);have b10:Below w9.heap.size w9 w10:=(bel_refl.alloc nat_le_rfl _).trans (hr10.below (by simp) (by simp));have hz10:w9.heap.size+1<=w10.heap.size:=by have:=hr10.size;simp at this;omega
    have HB10:=hid (HB9.trans (b10.mono HB9.size));have HT10:=hid (HT9.below b10);have kk:=kc _ HT10.out;clear hr10 b10;try simp only[PT]
    go_upto_region 6 with(refine wpList_store_cell rfl 45 52 _ _ rfl (fun w=>by kernel_rfl) w9.heap.size 0 yc (.int .i64 kd) rfl rfl hw10 (by rw[sy];decide) rfl rfl ?_;intro w11 hw11 hr11)
    rw[hset]at hw11;obtain⟨y',hy'⟩:∃y',({y with kind:=kd}:Pk)=y':=⟨_,rfl⟩;have et:y'=aloneP p:=by rw[<-hy',<-hkd.out];exact hyk.out
    have ei:∀W',p.In W' h->y'.In W' hy:=fun W' hh=>by rw[<-hy'];exact⟨(hyi W' hh).lw,(hyi W' hh).lc,(hyi W' hh).lf⟩
    rw[hy']at hw11;have HB11:=hid (HB10.trans (hr11.below HB10.size (by have:=HB9.size;simp;omega)));have ht11:=HT10.keepW hr11 (by have:=HT9.lt;simp;omega);have CS:=hid (pk_Same y' hy p h w11 (ei _ (HI.below HB11.out)) (HI.below HB11.out));rw[hpc.out,et]at CS;obtain⟨yd,hyd⟩:=gen_of (((aloneP p).cells hy).toArray);have iy:Hid ((prog.info? 52).map (·.size)=some yd.size):=hid (by rw[<-hyd];exact(by kernel_rfl:(prog.info? 52).map (·.size)=some 24));rw[et,hyd]at hw11;rw[hyd]at CS;clear hr11 hw10 kk ei et hy' hyd;try simp only[PT]
    go_wp2_with (first
     | (refine wL 52 rfl rfl hw11 underlying52 ?_ rfl rfl iy.out)
     | (refine wL 52 rfl rfl ht11 underlying52 ?_ rfl rfl ic.out))
    refine CS.mono ?_;rintro e w12 ⟨bb,rfl,hb',hb12⟩;have HB12:=hid (HB11.trans (hb12.mono HB11.size));have hb':=hid hb';clear hb12 ht11 hw11 CS;cases bb with
    |false=>
     have hno:Hid (¬Q):=hid (by rw[<-hQ.out];exact fun h=>by have:=hb'.2 h.2;cases this);go_wp2_with fail
     go_ret;exact⟨2,rfl,iff_of_false (by decide) hno.out,HB12.out⟩
    |true=>
     have hyes:Hid Q:=hid (by rw[<-hQ.out];exact⟨hq.out,hb'.1 rfl⟩);go_wp2_with fail
     go_ret;exact⟨0,rfl,iff_of_true rfl hyes.out,HB12.out⟩
def RdDo(b:Nat->Nat)(k:Nat)(g:Value):Prop:=∃f c,g=fnV f c/\fnC f/\∀W B p l fl,fl<16->ShK b k W->(4<=k->k<=11->b k+4≠p)->Rd W B p l->l.length<=65536->Calls prog f (#[.agg #[.pointer (some ⟨p,0,none⟩)],.int .i64 ((fl:Nat):Int)]++c) W (PRd k fl B p l W)
theorem readP_8(f:Nat)(l:List UInt8):readP 8 f l=readL8 l:=by unfold readP;rw[if_neg (by decide),if_neg (by decide),if_neg (by decide),if_pos rfl]
theorem readP_9(f:Nat)(l:List UInt8):readP 9 f l=readL9 l:=by unfold readP;rw[if_neg (by decide),if_neg (by decide),if_neg (by decide),if_neg (by decide),if_pos rfl]
theorem readP_10(f:Nat)(l:List UInt8):readP 10 f l=readL10 l:=by unfold readP;rw[if_neg (by decide),if_neg (by decide),if_neg (by decide),if_neg (by decide),if_neg (by decide),if_pos rfl]
theorem readP_i{k:Int}(h:4<=k/\k<=11)(h8:k≠8)(h9:k≠9)(h10:k≠10)(f:Nat)(l:List UInt8):readP k f l=readI k l:=by unfold readP;rw[if_neg (by omega),if_neg (by omega),if_neg (by omega),if_neg h8,if_neg h9,if_neg h10,if_pos h]
theorem pk_rd(b:Nat->Nat)(k:Nat)(hk1:1<=k/\k<=14):∃g1 g2 g3 g4 g5,shpV b k=.agg #[g1,g2,g3,g4,g5]/\RdDo b k g5:=by
 have:k=1\/k=2\/k=3\/k=4\/k=5\/k=6\/k=7\/k=8\/k=9\/k=10\/k=11\/k=12\/k=13\/k=14:=by omega
 rcases this with rfl | rfl | rfl | rfl | rfl | rfl | rfl | rfl | rfl | rfl | rfl | rfl | rfl | rfl
 ·exact⟨_,_,_,_,_,rfl,203,#[],rfl,enters_of func203 (by kernel_rfl) rfl,fun W B p l fl hf hs ho hR hl=>pk_readCon fl hR⟩
 ·exact⟨_,_,_,_,_,rfl,128,#[],rfl,enters_of func128 (by kernel_rfl) rfl,fun W B p l fl hf hs ho hR hl=>pk_readAck fl hR⟩
 ·exact⟨_,_,_,_,_,rfl,209,#[],rfl,enters_of func209 (by kernel_rfl) rfl,fun W B p l fl hf hs ho hR hl=>pk_readPub fl hf hR⟩
 ·refine⟨_,_,_,_,_,rfl,187,#[.pointer (some ⟨b 4+4,0,none⟩)],rfl,enters_of func187 (by kernel_rfl) rfl,fun W B p l fl hf hs ho hR hl=>?_⟩;have hrd:readP ((4:Nat):Int) fl l=(rNum 2 l).bind fun i=>((fun id l=>some ({zPk 0 with id:=id},l)) (i.1:Int) i.2).bind fun y=>some ({y.1 with kind:=((4:Nat):Int)},y.2):=by rw[show((4:Nat):Int)=4 from rfl,readP_i (by decide) (by decide) (by decide) (by decide)];unfold readI;cases rNum 2 l<;>rfl
  exact pk_readList 214 (b 4) (fun id l=>some ({zPk 0 with id:=id},l)) _ fl (enters_of func214 (by kernel_rfl) rfl) hR (hs (by decide) (by decide)).rd (ho (by decide) (by decide)) hrd (fun W1 tb id l1 h1 h2 h3 h4=>pk_lread_ans W1 B p tb id l1 h1 h3)
 ·refine⟨_,_,_,_,_,rfl,187,#[.pointer (some ⟨b 5+4,0,none⟩)],rfl,enters_of func187 (by kernel_rfl) rfl,fun W B p l fl hf hs ho hR hl=>?_⟩;have hrd:readP ((5:Nat):Int) fl l=(rNum 2 l).bind fun i=>((fun id l=>some ({zPk 0 with id:=id},l)) (i.1:Int) i.2).bind fun y=>some ({y.1 with kind:=((5:Nat):Int)},y.2):=by rw[show((5:Nat):Int)=5 from rfl,readP_i (by decide) (by decide) (by decide) (by decide)];unfold readI;cases rNum 2 l<;>rfl
  exact pk_readList 214 (b 5) (fun id l=>some ({zPk 0 with id:=id},l)) _ fl (enters_of func214 (by kernel_rfl) rfl) hR (hs (by decide) (by decide)).rd (ho (by decide) (by decide)) hrd (fun W1 tb id l1 h1 h2 h3 h4=>pk_lread_ans W1 B p tb id l1 h1 h3)
 ·refine⟨_,_,_,_,_,rfl,187,#[.pointer (some ⟨b 6+4,0,none⟩)],rfl,enters_of func187 (by kernel_rfl) rfl,fun W B p l fl hf hs ho hR hl=>?_⟩;have hrd:readP ((6:Nat):Int) fl l=(rNum 2 l).bind fun i=>((fun id l=>some ({zPk 0 with id:=id},l)) (i.1:Int) i.2).bind fun y=>some ({y.1 with kind:=((6:Nat):Int)},y.2):=by rw[show((6:Nat):Int)=6 from rfl,readP_i (by decide) (by decide) (by decide) (by decide)];unfold readI;cases rNum 2 l<;>rfl
  exact pk_readList 214 (b 6) (fun id l=>some ({zPk 0 with id:=id},l)) _ fl (enters_of func214 (by kernel_rfl) rfl) hR (hs (by decide) (by decide)).rd (ho (by decide) (by decide)) hrd (fun W1 tb id l1 h1 h2 h3 h4=>pk_lread_ans W1 B p tb id l1 h1 h3)
 ·refine⟨_,_,_,_,_,rfl,187,#[.pointer (some ⟨b 7+4,0,none⟩)],rfl,enters_of func187 (by kernel_rfl) rfl,fun W B p l fl hf hs ho hR hl=>?_⟩;have hrd:readP ((7:Nat):Int) fl l=(rNum 2 l).bind fun i=>((fun id l=>some ({zPk 0 with id:=id},l)) (i.1:Int) i.2).bind fun y=>some ({y.1 with kind:=((7:Nat):Int)},y.2):=by rw[show((7:Nat):Int)=7 from rfl,readP_i (by decide) (by decide) (by decide) (by decide)];unfold readI;cases rNum 2 l<;>rfl
  exact pk_readList 214 (b 7) (fun id l=>some ({zPk 0 with id:=id},l)) _ fl (enters_of func214 (by kernel_rfl) rfl) hR (hs (by decide) (by decide)).rd (ho (by decide) (by decide)) hrd (fun W1 tb id l1 h1 h2 h3 h4=>pk_lread_ans W1 B p tb id l1 h1 h3)
 ·refine⟨_,_,_,_,_,rfl,187,#[.pointer (some ⟨b 8+4,0,none⟩)],rfl,enters_of func187 (by kernel_rfl) rfl,fun W B p l fl hf hs ho hR hl=>?_⟩;have hrd:readP ((8:Nat):Int) fl l=(rNum 2 l).bind fun i=>((fun id l=>(rAll rWant l.length l).bind fun ws=>some ({zPk 0 with id:=id,wants:=ws},[])) (i.1:Int) i.2).bind fun y=>some ({y.1 with kind:=((8:Nat):Int)},y.2):=by
   rw[show((8:Nat):Int)=8 from rfl,readP_8];unfold readL8;cases rNum 2 l with
   | none=>rfl
   |some x=>simp only[Option.bind_some];cases rAll rWant x.2.length x.2<;>rfl
  exact pk_readList 138 (b 8) (fun id l=>(rAll rWant l.length l).bind fun ws=>some ({zPk 0 with id:=id,wants:=ws},[])) _ fl (enters_of func138 (by kernel_rfl) rfl) hR (hs (by decide) (by decide)).rd (ho (by decide) (by decide)) hrd (fun W1 tb id l1 h1 h2 h3 h4=>pk_lread_want W1 B p tb id l1 h1 (by omega) h3 h4)
 ·refine⟨_,_,_,_,_,rfl,187,#[.pointer (some ⟨b 9+4,0,none⟩)],rfl,enters_of func187 (by kernel_rfl) rfl,fun W B p l fl hf hs ho hR hl=>?_⟩;have hrd:readP ((9:Nat):Int) fl l=(rNum 2 l).bind fun i=>((fun id l=>(rAll rCode l.length l).bind fun ws=>some ({zPk 0 with id:=id,codes:=ws},[])) (i.1:Int) i.2).bind fun y=>some ({y.1 with kind:=((9:Nat):Int)},y.2):=by
   rw[show((9:Nat):Int)=9 from rfl,readP_9];unfold readL9;cases rNum 2 l with
   | none=>rfl
   |some x=>simp only[Option.bind_some];cases rAll rCode x.2.length x.2<;>rfl
  exact pk_readList 147 (b 9) (fun id l=>(rAll rCode l.length l).bind fun ws=>some ({zPk 0 with id:=id,codes:=ws},[])) _ fl (enters_of func147 (by kernel_rfl) rfl) hR (hs (by decide) (by decide)).rd (ho (by decide) (by decide)) hrd (fun W1 tb id l1 h1 h2 h3 h4=>pk_lread_int W1 B p tb id l1 h1 (by omega) h3 h4)
 ·refine⟨_,_,_,_,_,rfl,187,#[.pointer (some ⟨b 10+4,0,none⟩)],rfl,enters_of func187 (by kernel_rfl) rfl,fun W B p l fl hf hs ho hR hl=>?_⟩;have hrd:readP ((10:Nat):Int) fl l=(rNum 2 l).bind fun i=>((fun id l=>(rAll rTxt l.length l).bind fun ws=>some ({zPk 0 with id:=id,filters:=ws},[])) (i.1:Int) i.2).bind fun y=>some ({y.1 with kind:=((10:Nat):Int)},y.2):=by
   rw[show((10:Nat):Int)=10 from rfl,readP_10];unfold readL10;cases rNum 2 l with
   | none=>rfl
   |some x=>simp only[Option.bind_some];cases rAll rTxt x.2.length x.2<;>rfl
  exact pk_readList 154 (b 10) (fun id l=>(rAll rTxt l.length l).bind fun ws=>some ({zPk 0 with id:=id,filters:=ws},[])) _ fl (enters_of func154 (by kernel_rfl) rfl) hR (hs (by decide) (by decide)).rd (ho (by decide) (by decide)) hrd (fun W1 tb id l1 h1 h2 h3 h4=>pk_lread_str W1 B p tb id l1 h1 (by omega) h3 h4)
 ·refine⟨_,_,_,_,_,rfl,187,#[.pointer (some ⟨b 11+4,0,none⟩)],rfl,enters_of func187 (by kernel_rfl) rfl,fun W B p l fl hf hs ho hR hl=>?_⟩;have hrd:readP ((11:Nat):Int) fl l=(rNum 2 l).bind fun i=>((fun id l=>some ({zPk 0 with id:=id},l)) (i.1:Int) i.2).bind fun y=>some ({y.1 with kind:=((11:Nat):Int)},y.2):=by rw[show((11:Nat):Int)=11 from rfl,readP_i (by decide) (by decide) (by decide) (by decide)];unfold readI;cases rNum 2 l<;>rfl
  exact pk_readList 214 (b 11) (fun id l=>some ({zPk 0 with id:=id},l)) _ fl (enters_of func214 (by kernel_rfl) rfl) hR (hs (by decide) (by decide)).rd (ho (by decide) (by decide)) hrd (fun W1 tb id l1 h1 h2 h3 h4=>pk_lread_ans W1 B p tb id l1 h1 h3)
 ·exact⟨_,_,_,_,_,rfl,122,#[],rfl,enters_of func122 (by kernel_rfl) rfl,fun W B p l fl hf hs ho hR hl=>pk_readEmp _ (by decide) fl hR⟩
 ·exact⟨_,_,_,_,_,rfl,122,#[],rfl,enters_of func122 (by kernel_rfl) rfl,fun W B p l fl hf hs ho hR hl=>pk_readEmp _ (by decide) fl hR⟩
 exact⟨_,_,_,_,_,rfl,122,#[],rfl,enters_of func122 (by kernel_rfl) rfl,fun W B p l fl hf hs ho hR hl=>pk_readEmp _ (by decide) fl hR⟩
end
end Go.Proofs.YtkghejaimhoboaaGreatDoor
