/- Parts of the proof of ScriptRaws. -/
import Derived.Test.YtkghejaimhoboaaGreatDoorPr21
import Derived.Test.YtkghejaimhoboaaGreatDoorPr19
import Derived.Test.YtkghejaimhoboaaGreatDoorRows
set_option linter.unusedSimpArgs false
set_option linter.unusedVariables false
set_option maxRecDepth 100000
set_option maxHeartbeats 8000000
namespace Go.Proofs.YtkghejaimhoboaaGreatDoor
open Go.RowKit Go.Shelf Go.Proofs.Tryz
theorem connB_iff(z:Int):connB z=true↔0<=z/\z<=65535:=by simp[connB]
theorem kindDo_of(x:TnC)(h2:x.t.kind=2->CheckOK x.t.pk x.h):KindDo x:=fun c v hv=>by
 obtain⟨k,hk⟩:=gen_of x.t.kind;rw[hk]at hv h2;have hk8:1<=k/\k<=8:=by refine Classical.byContradiction fun h=>?_;unfold kindG at hv;rw[if_neg (by omega),if_neg (by omega),if_neg (by omega),if_neg (by omega),if_neg (by omega),if_neg (by omega),if_neg (by omega),if_neg (by omega)]at hv;cases hv
 have:k=1\/k=2\/k=3\/k=4\/k=5\/k=6\/k=7\/k=8:=by omega
 rcases this with rfl | rfl | rfl | rfl | rfl | rfl | rfl | rfl
 ·obtain rfl:bareV=v:=Option.some.inj hv;refine⟨_,_,_,_,_,_,_,_,rfl,enters_of func45 (by kernel_rfl) rfl,enters_of func46 (by kernel_rfl) rfl,fun W hi hb=>?_,fun W=>?_⟩
  ·refine(sc_may1 x.t x.h x.hp W).mono fun e w' h=>⟨_,h.1,by(simp[mayT,hk]),h.2⟩
  refine(sc_has2 x.t x.h x.hp W).mono fun e w' ⟨he,hb⟩=>⟨⟨_,_,_⟩,he,?_,fun W' h=>?_,hb⟩
  ·unfold aloneT;simp[hk,zTn]
  exact⟨⟨LsAt.nil W',LsAt.nil W',LsAt.nil W'⟩,LsAt.nil W'⟩
 ·obtain rfl:sayV c=v:=Option.some.inj hv;refine⟨_,_,_,_,_,_,_,_,rfl,enters_of func50 (by kernel_rfl) rfl,enters_of func52 (by kernel_rfl) rfl,fun W hi hb=>?_,fun W=>?_⟩
  ·refine(sc_may6 x c W hb hi (h2 rfl)).mono fun e w' ⟨b,he,hi,hbb⟩=>⟨b,he,hi.trans (by(simp[mayT,hk,connB_iff])),hbb⟩
  refine(sc_has7 x.t x.h x.hp W).mono fun e w' ⟨he,hb⟩=>⟨⟨_,_,_⟩,he,?_,fun W' h=>?_,hb⟩
  ·unfold aloneT;simp[hk,zTn]
  exact⟨⟨h.pk.lw,h.pk.lc,h.pk.lf⟩,LsAt.nil W'⟩
 ·obtain rfl:bytesV c=v:=Option.some.inj hv;refine⟨_,_,_,_,_,_,_,_,rfl,enters_of func58 (by kernel_rfl) rfl,enters_of func59 (by kernel_rfl) rfl,fun W hi hb=>?_,fun W=>?_⟩
  ·refine(sc_may10 x c W hb).mono fun e w' h=>Tells.of (by(simp[mayT,hk,connB])) h
  refine(sc_has11 x.t x.h x.hp W).mono fun e w' ⟨he,hb⟩=>⟨⟨_,_,_⟩,he,?_,fun W' h=>?_,hb⟩
  ·unfold aloneT;simp[hk,zTn]
  exact⟨⟨LsAt.nil W',LsAt.nil W',LsAt.nil W'⟩,LsAt.nil W'⟩
 ·obtain rfl:bareV=v:=Option.some.inj hv;refine⟨_,_,_,_,_,_,_,_,rfl,enters_of func45 (by kernel_rfl) rfl,enters_of func46 (by kernel_rfl) rfl,fun W hi hb=>?_,fun W=>?_⟩
  ·refine(sc_may1 x.t x.h x.hp W).mono fun e w' h=>⟨_,h.1,by(simp[mayT,hk]),h.2⟩
  refine(sc_has2 x.t x.h x.hp W).mono fun e w' ⟨he,hb⟩=>⟨⟨_,_,_⟩,he,?_,fun W' h=>?_,hb⟩
  ·unfold aloneT;simp[hk,zTn]
  exact⟨⟨LsAt.nil W',LsAt.nil W',LsAt.nil W'⟩,LsAt.nil W'⟩
 ·obtain rfl:emptyV=v:=Option.some.inj hv;refine⟨_,_,_,_,_,_,_,_,rfl,enters_of func45 (by kernel_rfl) rfl,enters_of func49 (by kernel_rfl) rfl,fun W hi hb=>?_,fun W=>?_⟩
  ·refine(sc_may1 x.t x.h x.hp W).mono fun e w' h=>⟨_,h.1,by(simp[mayT,hk]),h.2⟩
  refine(sc_has5 x.t x.h x.hp W).mono fun e w' ⟨he,hb⟩=>⟨⟨_,_,_⟩,he,?_,fun W' h=>?_,hb⟩
  ·unfold aloneT;simp[hk,zTn]
  exact⟨⟨LsAt.nil W',LsAt.nil W',LsAt.nil W'⟩,LsAt.nil W'⟩
 ·obtain rfl:emptyV=v:=Option.some.inj hv;refine⟨_,_,_,_,_,_,_,_,rfl,enters_of func45 (by kernel_rfl) rfl,enters_of func49 (by kernel_rfl) rfl,fun W hi hb=>?_,fun W=>?_⟩
  ·refine(sc_may1 x.t x.h x.hp W).mono fun e w' h=>⟨_,h.1,by(simp[mayT,hk]),h.2⟩
  refine(sc_has5 x.t x.h x.hp W).mono fun e w' ⟨he,hb⟩=>⟨⟨_,_,_⟩,he,?_,fun W' h=>?_,hb⟩
  ·unfold aloneT;simp[hk,zTn]
  exact⟨⟨LsAt.nil W',LsAt.nil W',LsAt.nil W'⟩,LsAt.nil W'⟩
 ·obtain rfl:armV=v:=Option.some.inj hv;refine⟨_,_,_,_,_,_,_,_,rfl,enters_of func62 (by kernel_rfl) rfl,enters_of func63 (by kernel_rfl) rfl,fun W hi hb=>?_,fun W=>?_⟩
  ·refine(sc_may14 x W).mono fun e w' h=>Tells.of (by(simp[mayT,hk,and_assoc])) h
  refine(sc_has15 x.t x.h x.hp W).mono fun e w' ⟨he,hb⟩=>⟨⟨_,_,_⟩,he,?_,fun W' h=>?_,hb⟩
  ·unfold aloneT;simp[hk,zTn]
  exact⟨⟨LsAt.nil W',LsAt.nil W',LsAt.nil W'⟩,LsAt.nil W'⟩
 obtain rfl:crashV=v:=Option.some.inj hv;refine⟨_,_,_,_,_,_,_,_,rfl,enters_of func67 (by kernel_rfl) rfl,enters_of func70 (by kernel_rfl) rfl,fun W hi hb=>?_,fun W=>?_⟩
 ·refine(sc_may18 x W hi.p).mono fun e w' h=>Tells.of (by(simp[mayT,hk])) h
 refine(sc_has19 x.t x.h x.hp W).mono fun e w' ⟨he,hb⟩=>⟨⟨_,_,_⟩,he,?_,fun W' h=>?_,hb⟩
 ·unfold aloneT;simp[hk,zTn]
 exact⟨⟨LsAt.nil W',LsAt.nil W',LsAt.nil W'⟩,h.p⟩
section
open Go.RowKit Go.Shelf Go.Deep
variable {H:Type} {enc:TypeId×Value->H}
theorem mem_bulk{d:DataW H}:∀{l:List (DataW H)},d∈l->Rows.uptoBulk d<=Rows.uptoBulkAll l
 |e::r,h=>by
  simp only[Rows.uptoBulkAll];rcases List.mem_cons.1 h with rfl | h
  ·omega
  have:=mem_bulk h;omega
theorem part_bulk{x:DataW H×List MemPlace}{xs:List (DataW H×List MemPlace)}{pl:List MemPlace}(ex:x=(.agg (xs.map (·.1)),pl)){B:Nat}(hb:Rows.uptoBulk x.1<=B)(j:Nat)(hj:j<xs.length):Rows.uptoBulk (xs[j]).1<=B:=by subst ex;have h1:(xs[j]).1∈xs.map (·.1):=List.mem_map.2 ⟨xs[j],List.getElem_mem hj,rfl⟩;have h2:=mem_bulk h1;simp only[Rows.uptoBulk]at hb;omega
theorem text_bulk{x:DataW H×List MemPlace}{s:ByteArray}{pl:List MemPlace}(ex:x=(.lit (.string s.data.toList),pl)){B:Nat}(hb:Rows.uptoBulk x.1<=B):s.data.toList.length<=B:=by subst ex;simp only[Rows.uptoBulk]at hb;omega
theorem lsB_of{α:Type}[Inhabited α](f:α->List Value){size:Nat}{T e:TypeId}(hT:prog.underlying T=some (.slice e))(hsz:prog.cellsOf e=size)(h0:0<size)(Q:α->Prop){w:World}{base:Nat}{held:Bool}{B:Nat}
  (elem:∀{fuel:Nat}{cs:List Value}{x:DataW H×List MemPlace},DataW.trod enc prog w base (fun _=>true) held fuel e cs=some x->Rows.uptoBulk x.1<=B->∃y:α,cs=f y/\Q y) {fuel:Nat} {cs:List Value} {x:DataW H×List MemPlace}
  (h:DataW.trod enc prog w base (fun _=>true) held fuel T cs=some x) (hbx:Rows.uptoBulk x.1<=B):∃a n cap xs,cs=[.slice a n cap]/\LsAt f size w a n cap xs/\∀y∈xs,Q y:=by
 rcases open_slice hT h with⟨hcs,_⟩ | ⟨a,len,cap,m,n,D,Pl,rfl,hb,hl,hm,hmm,hxx,hx⟩
 ·exact⟨none,0,0,[],hcs,LsAt.nil w,fun y hy=>by cases hy⟩
 simp only[if_true]at hmm;subst hmm;rw[hsz]at hx;have hD:∀i,i<m->Rows.uptoBulk (D i)<=B:=fun i hi=>by
  rw[hxx]at hbx;simp only[Rows.uptoBulk]at hbx;by_cases hil:i<len
  ·have:=mem_bulk (List.mem_map.2 ⟨i,List.mem_range.2 hil,rfl⟩:D i∈(List.range len).map D);omega
  have:=mem_bulk (List.mem_map.2 ⟨i-len,List.mem_range.2 (by omega),by rw[show len+(i-len)=i by omega]⟩:D i∈(List.range (m-len)).map fun j=>D (len+j));omega
 have each:∀i,i<m->∃y:α,w.cells? base (a.add (i*size)) size=some (f y)/\Q y:=fun i hi=>by obtain⟨cs',h1,h2⟩:=hx i hi;obtain⟨y,rfl,hq⟩:=elem h2 (hD i hi);exact⟨y,h1,hq⟩
 obtain⟨Y,hY⟩:=choose_lt each;refine⟨some a,len,m,(List.range len).map Y,rfl,⟨by simp,hl,hm,fun i y hy=>?_⟩,fun y hy=>?_⟩
 ·have hi:i<len:=by have:=(List.getElem?_eq_some_iff.1 hy).1;simpa using this
  have hy':Y i=y:=by simpa[hi]using hy
  have h1:=(hY i (by omega)).1;rw[hy']at h1;obtain⟨_,hlen,hcell⟩:=World.cells?_some h1;have hlf:(f y).length=size:=hlen;have hc0:=hcell 0 (by omega);rw[List.getElem?_eq_getElem (by omega)]at hc0;obtain⟨b,off,spot⟩:=a;have hspot:spot=none:=by obtain⟨_,hl0,hz⟩:=World.cells?_some (hY 0 (by omega)).1;have hl0':(f (Y 0)).length=size:=hl0;have hz0:=hz 0 (by omega);rw[List.getElem?_eq_getElem (by omega)]at hz0;have hz1:w.cell? (((⟨b,off,spot⟩:Addr).add (0*size)).add 0)=some ((f (Y 0))[0]'(by omega)):=hz0;rw[Nat.zero_mul]at hz1;exact World.cell?_spot hz1
  subst hspot;simp only[Addr.add_mid]at hcell hc0;refine⟨b,off,rfl,cell_blk_lt hc0,fun j v hj=>?_⟩;have hj7:j<size:=by have:=(List.getElem?_eq_some_iff.1 hj).1;omega
  rw[hcell j hj7];exact hj
 obtain⟨i,hi,rfl⟩:=List.mem_map.1 hy;exact(hY i (by have:=List.mem_range.1 hi;omega)).2
theorem int_ofB{w:World}{base:Nat}{held:Bool}{fuel:Nat}{cs:List Value}{x:DataW H×List MemPlace}(h:DataW.trod enc prog w base (fun _=>true) held fuel 3 cs=some x)(_:Rows.uptoBulk x.1<=1048576):∃y:Int,cs=iCl y/\True:=int_of h
theorem text_ofB{w:World}{base:Nat}{held:Bool}{fuel:Nat}{cs:List Value}{x:DataW H×List MemPlace}(h:DataW.trod enc prog w base (fun _=>true) held fuel 9 cs=some x)(hb:Rows.uptoBulk x.1<=1048576):∃y:List UInt8,cs=sCl y/\y.length<=1048576:=by obtain⟨s,e,ex,_⟩:=DataW.trod_string underlying9 h;exact⟨s.data.toList,by simpa[sCl]using e,text_bulk ex hb⟩
theorem want_ofB{w:World}{base:Nat}{held:Bool}{fuel:Nat}{cs:List Value}{x:DataW H×List MemPlace}(h:DataW.trod enc prog w base (fun _=>true) held fuel 169 cs=some x)(hb:Rows.uptoBulk x.1<=1048576):∃y:WantV,cs=y.cl/\y.filter.length<=1048576:=by
 obtain⟨xs,k,_,ex,hlen,hxl,hf⟩:=DataW.trod_struct underlying169 h;have hp:=part_bulk ex hb;have c7:prog.cellsOf 169=2:=by kernel_rfl
 rw[c7]at hlen;have i0:prog.cellsOf 9=1:=by kernel_rfl
 have i1:prog.cellsOf 3=1:=by kernel_rfl
 match cs,hlen with
 |[v0,v1],_=>have g0:DataW.trod enc prog w base (fun _=>true) held k 9 (([v0,v1].drop 0).take (prog.cellsOf 9))=xs[0]?:=hf 0 _ rfl;have g1:DataW.trod enc prog w base (fun _=>true) held k 3 (([v0,v1].drop 1).take (prog.cellsOf 3))=xs[1]?:=hf 1 _ rfl;rw[i0]at g0;rw[i1]at g1;have hxn:xs.length=2:=hxl;rw[List.getElem?_eq_getElem (by omega)]at g0 g1;obtain⟨s0,e0,ex0,_⟩:=DataW.trod_string underlying9 g0;have q0:=text_bulk ex0 (hp 0 (by omega));obtain⟨n1,e1,_⟩:=DataW.trod_int underlying3 g1;simp only[List.drop_zero,List.drop_succ_cons,List.take_succ_cons,List.take_zero,List.cons.injEq,and_true]at e0 e1;subst e0 e1;exact⟨⟨s0.data.toList,n1⟩,by simp[WantV.cl],q0⟩
theorem will_ofB{w:World}{base:Nat}{held:Bool}{fuel:Nat}{cs:List Value}{x:DataW H×List MemPlace}(h:DataW.trod enc prog w base (fun _=>true) held fuel 47 cs=some x)(hb:Rows.uptoBulk x.1<=1048576):∃y:WillV,cs=y.vals.toList/\y.topic.length<=1048576/\y.body.length<=1048576:=by
 obtain⟨xs,k,_,ex,hlen,hxl,hf⟩:=DataW.trod_struct underlying47 h;have hp:=part_bulk ex hb;have c7:prog.cellsOf 47=4:=by kernel_rfl
 rw[c7]at hlen;have i0:prog.cellsOf 9=1:=by kernel_rfl
 have i1:prog.cellsOf 3=1:=by kernel_rfl
 have i2:prog.cellsOf 4=1:=by kernel_rfl
 match cs,hlen with
 |[v0,v1,v2,v3],_=>have g0:DataW.trod enc prog w base (fun _=>true) held k 9 (([v0,v1,v2,v3].drop 0).take (prog.cellsOf 9))=xs[0]?:=hf 0 _ rfl;have g1:DataW.trod enc prog w base (fun _=>true) held k 9 (([v0,v1,v2,v3].drop 1).take (prog.cellsOf 9))=xs[1]?:=hf 1 _ rfl;have g2:DataW.trod enc prog w base (fun _=>true) held k 3 (([v0,v1,v2,v3].drop 2).take (prog.cellsOf 3))=xs[2]?:=hf 2 _ rfl;have g3:DataW.trod enc prog w base (fun _=>true) held k 4 (([v0,v1,v2,v3].drop 3).take (prog.cellsOf 4))=xs[3]?:=hf 3 _ rfl;rw[i0]at g0 g1;rw[i1]at g2;rw[i2]at g3;have hxn:xs.length=4:=hxl;rw[List.getElem?_eq_getElem (by omega)]at g0 g1 g2 g3;obtain⟨s0,e0,ex0,_⟩:=DataW.trod_string underlying9 g0;have q0:=text_bulk ex0 (hp 0 (by omega));obtain⟨s1,e1,ex1,_⟩:=DataW.trod_string underlying9 g1;have q1:=text_bulk ex1 (hp 1 (by omega));obtain⟨n2,e2,_⟩:=DataW.trod_int underlying3 g2;obtain⟨b3,e3,_⟩:=DataW.trod_bool underlying4 g3;simp only[List.drop_zero,List.drop_succ_cons,List.take_succ_cons,List.take_zero,List.cons.injEq,and_true]at e0 e1 e2 e3;subst e0 e1 e2 e3;exact⟨⟨s0.data.toList,s1.data.toList,n2,b3⟩,by simp[WillV.vals],q0,q1⟩
theorem pk_ofB{w:World}{base:Nat}{held:Bool}{fuel:Nat}{cs:List Value}{x:DataW H×List MemPlace}(h:DataW.trod enc prog w base (fun _=>true) held fuel 52 cs=some x)(hb:Rows.uptoBulk x.1<=1048576):∃(y:Pk)(h:H3),cs=y.cells h/\y.In w h/\PkS y:=by
 obtain⟨xs,k,_,ex,hlen,hxl,hf⟩:=DataW.trod_struct underlying52 h;have hp:=part_bulk ex hb;have c7:prog.cellsOf 52=24:=by kernel_rfl
 rw[c7]at hlen;have i0:prog.cellsOf 45=1:=by kernel_rfl
 have i1:prog.cellsOf 4=1:=by kernel_rfl
 have i2:prog.cellsOf 3=1:=by kernel_rfl
 have i3:prog.cellsOf 9=1:=by kernel_rfl
 have i4:prog.cellsOf 2=1:=by kernel_rfl
 have i5:prog.cellsOf 47=4:=by kernel_rfl
 have i6:prog.cellsOf 48=1:=by kernel_rfl
 have i7:prog.cellsOf 49=1:=by kernel_rfl
 have i8:prog.cellsOf 50=1:=by kernel_rfl
 match cs,hlen with
 |[v0,v1,v2,v3,v4,v5,v6,v7,v8,v9,v10,v11,v12,v13,v14,v15,v16,v17,v18,v19,v20,v21,v22,v23],_=>
  have g0:DataW.trod enc prog w base (fun _=>true) held k 45 (([v0,v1,v2,v3,v4,v5,v6,v7,v8,v9,v10,v11,v12,v13,v14,v15,v16,v17,v18,v19,v20,v21,v22,v23].drop 0).take (prog.cellsOf 45))=xs[0]?:=hf 0 _ rfl;have g1:DataW.trod enc prog w base (fun _=>true) held k 4 (([v0,v1,v2,v3,v4,v5,v6,v7,v8,v9,v10,v11,v12,v13,v14,v15,v16,v17,v18,v19,v20,v21,v22,v23].drop 1).take (prog.cellsOf 4))=xs[1]?:=hf 1 _ rfl;have g2:DataW.trod enc prog w base (fun _=>true) held k 4 (([v0,v1,v2,v3,v4,v5,v6,v7,v8,v9,v10,v11,v12,v13,v14,v15,v16,v17,v18,v19,v20,v21,v22,v23].drop 2).take (prog.cellsOf 4))=xs[2]?:=hf 2 _ rfl;have g3:DataW.trod enc prog w base (fun _=>true) held k 3 (([v0,v1,v2,v3,v4,v5,v6,v7,v8,v9,v10,v11,v12,v13,v14,v15,v16,v17,v18,v19,v20,v21,v22,v23].drop 3).take (prog.cellsOf 3))=xs[3]?:=hf 3 _ rfl;have g4:DataW.trod enc prog w base (fun _=>true) held k 9 (([v0,v1,v2,v3,v4,v5,v6,v7,v8,v9,v10,v11,v12,v13,v14,v15,v16,v17,v18,v19,v20,v21,v22,v23].drop 4).take (prog.cellsOf 9))=xs[4]?:=hf 4 _ rfl;have g5:DataW.trod enc prog w base (fun _=>true) held k 9 (([v0,v1,v2,v3,v4,v5,v6,v7,v8,v9,v10,v11,v12,v13,v14,v15,v16,v17,v18,v19,v20,v21,v22,v23].drop 5).take (prog.cellsOf 9))=xs[5]?:=hf 5 _ rfl;have g6:DataW.trod enc prog w base (fun _=>true) held k 2 (([v0,v1,v2,v3,v4,v5,v6,v7,v8,v9,v10,v11,v12,v13,v14,v15,v16,v17,v18,v19,v20,v21,v22,v23].drop 6).take (prog.cellsOf 2))=xs[6]?:=hf 6 _ rfl
  have g7:DataW.trod enc prog w base (fun _=>true) held k 9 (([v0,v1,v2,v3,v4,v5,v6,v7,v8,v9,v10,v11,v12,v13,v14,v15,v16,v17,v18,v19,v20,v21,v22,v23].drop 7).take (prog.cellsOf 9))=xs[7]?:=hf 7 _ rfl;have g8:DataW.trod enc prog w base (fun _=>true) held k 4 (([v0,v1,v2,v3,v4,v5,v6,v7,v8,v9,v10,v11,v12,v13,v14,v15,v16,v17,v18,v19,v20,v21,v22,v23].drop 8).take (prog.cellsOf 4))=xs[8]?:=hf 8 _ rfl;have g9:DataW.trod enc prog w base (fun _=>true) held k 2 (([v0,v1,v2,v3,v4,v5,v6,v7,v8,v9,v10,v11,v12,v13,v14,v15,v16,v17,v18,v19,v20,v21,v22,v23].drop 9).take (prog.cellsOf 2))=xs[9]?:=hf 9 _ rfl;have g10:DataW.trod enc prog w base (fun _=>true) held k 4 (([v0,v1,v2,v3,v4,v5,v6,v7,v8,v9,v10,v11,v12,v13,v14,v15,v16,v17,v18,v19,v20,v21,v22,v23].drop 10).take (prog.cellsOf 4))=xs[10]?:=hf 10 _ rfl;have g11:DataW.trod enc prog w base (fun _=>true) held k 47 (([v0,v1,v2,v3,v4,v5,v6,v7,v8,v9,v10,v11,v12,v13,v14,v15,v16,v17,v18,v19,v20,v21,v22,v23].drop 11).take (prog.cellsOf 47))=xs[11]?:=hf 11 _ rfl;have g12:DataW.trod enc prog w base (fun _=>true) held k 4 (([v0,v1,v2,v3,v4,v5,v6,v7,v8,v9,v10,v11,v12,v13,v14,v15,v16,v17,v18,v19,v20,v21,v22,v23].drop 15).take (prog.cellsOf 4))=xs[12]?:=hf 12 _ rfl;have g13:DataW.trod enc prog w base (fun _=>true) held k 4 (([v0,v1,v2,v3,v4,v5,v6,v7,v8,v9,v10,v11,v12,v13,v14,v15,v16,v17,v18,v19,v20,v21,v22,v23].drop 16).take (prog.cellsOf 4))=xs[13]?:=hf 13 _ rfl
  have g14:DataW.trod enc prog w base (fun _=>true) held k 9 (([v0,v1,v2,v3,v4,v5,v6,v7,v8,v9,v10,v11,v12,v13,v14,v15,v16,v17,v18,v19,v20,v21,v22,v23].drop 17).take (prog.cellsOf 9))=xs[14]?:=hf 14 _ rfl;have g15:DataW.trod enc prog w base (fun _=>true) held k 9 (([v0,v1,v2,v3,v4,v5,v6,v7,v8,v9,v10,v11,v12,v13,v14,v15,v16,v17,v18,v19,v20,v21,v22,v23].drop 18).take (prog.cellsOf 9))=xs[15]?:=hf 15 _ rfl;have g16:DataW.trod enc prog w base (fun _=>true) held k 4 (([v0,v1,v2,v3,v4,v5,v6,v7,v8,v9,v10,v11,v12,v13,v14,v15,v16,v17,v18,v19,v20,v21,v22,v23].drop 19).take (prog.cellsOf 4))=xs[16]?:=hf 16 _ rfl;have g17:DataW.trod enc prog w base (fun _=>true) held k 3 (([v0,v1,v2,v3,v4,v5,v6,v7,v8,v9,v10,v11,v12,v13,v14,v15,v16,v17,v18,v19,v20,v21,v22,v23].drop 20).take (prog.cellsOf 3))=xs[17]?:=hf 17 _ rfl;have g18:DataW.trod enc prog w base (fun _=>true) held k 48 (([v0,v1,v2,v3,v4,v5,v6,v7,v8,v9,v10,v11,v12,v13,v14,v15,v16,v17,v18,v19,v20,v21,v22,v23].drop 21).take (prog.cellsOf 48))=xs[18]?:=hf 18 _ rfl;have g19:DataW.trod enc prog w base (fun _=>true) held k 49 (([v0,v1,v2,v3,v4,v5,v6,v7,v8,v9,v10,v11,v12,v13,v14,v15,v16,v17,v18,v19,v20,v21,v22,v23].drop 22).take (prog.cellsOf 49))=xs[19]?:=hf 19 _ rfl;have g20:DataW.trod enc prog w base (fun _=>true) held k 50 (([v0,v1,v2,v3,v4,v5,v6,v7,v8,v9,v10,v11,v12,v13,v14,v15,v16,v17,v18,v19,v20,v21,v22,v23].drop 23).take (prog.cellsOf 50))=xs[20]?:=hf 20 _ rfl;rw[i0]at g0;rw[i1]at g1 g2 g8 g10 g12 g13 g16;rw[i2]at g3 g17
  rw[i3]at g4 g5 g7 g14 g15;rw[i4]at g6 g9;rw[i5]at g11;rw[i6]at g18;rw[i7]at g19;rw[i8]at g20;have hxn:xs.length=21:=hxl;rw[List.getElem?_eq_getElem (by omega)]at g0 g1 g2 g3 g4 g5 g6 g7 g8 g9 g10 g11 g12 g13 g14 g15 g16 g17 g18 g19 g20;obtain⟨n0,e0,_⟩:=DataW.trod_int underlying45 g0;obtain⟨b1,e1,_⟩:=DataW.trod_bool underlying4 g1;obtain⟨b2,e2,_⟩:=DataW.trod_bool underlying4 g2;obtain⟨n3,e3,_⟩:=DataW.trod_int underlying3 g3;obtain⟨s4,e4,ex4,_⟩:=DataW.trod_string underlying9 g4;have q4:=text_bulk ex4 (hp 4 (by omega));obtain⟨s5,e5,ex5,_⟩:=DataW.trod_string underlying9 g5;have q5:=text_bulk ex5 (hp 5 (by omega));obtain⟨n6,e6,_⟩:=DataW.trod_int underlying2 g6;obtain⟨s7,e7,ex7,_⟩:=DataW.trod_string underlying9 g7;have q7:=text_bulk ex7 (hp 7 (by omega));obtain⟨b8,e8,_⟩:=DataW.trod_bool underlying4 g8;obtain⟨n9,e9,_⟩:=DataW.trod_int underlying2 g9;obtain⟨b10,e10,_⟩:=DataW.trod_bool underlying4 g10;obtain⟨wl,e11,qt,qb⟩:=will_ofB g11 (hp 11 (by omega));obtain⟨b12,e12,_⟩:=DataW.trod_bool underlying4 g12;obtain⟨b13,e13,_⟩:=DataW.trod_bool underlying4 g13;obtain⟨s14,e14,ex14,_⟩:=DataW.trod_string underlying9 g14;have q14:=text_bulk ex14 (hp 14 (by omega));obtain⟨s15,e15,ex15,_⟩:=DataW.trod_string underlying9 g15;have q15:=text_bulk ex15 (hp 15 (by omega));obtain⟨b16,e16,_⟩:=DataW.trod_bool underlying4 g16;obtain⟨n17,e17,_⟩:=DataW.trod_int underlying3 g17
  obtain⟨a18,n18,c18,l18,e18,hl18,hq18⟩:=lsB_of WantV.cl (size:=2) underlying48 (e:=169) (by kernel_rfl) (by decide) (fun y=>y.filter.length<=1048576) (fun h hb=>want_ofB h hb) g18 (hp 18 (by omega));obtain⟨a19,n19,c19,l19,e19,hl19,hq19⟩:=lsB_of iCl (size:=1) underlying49 (e:=3) (by kernel_rfl) (by decide) (fun _=>True) (fun h hb=>int_ofB h hb) g19 (hp 19 (by omega));obtain⟨a20,n20,c20,l20,e20,hl20,hq20⟩:=lsB_of sCl (size:=1) underlying50 (e:=9) (by kernel_rfl) (by decide) (fun y=>y.length<=1048576) (fun h hb=>text_ofB h hb) g20 (hp 20 (by omega));simp only[List.drop_zero,List.drop_succ_cons,List.take_succ_cons,List.take_zero,List.cons.injEq,and_true,WillV.vals]at e0 e1 e2 e3 e4 e5 e6 e7 e8 e9 e10 e11 e12 e13 e14 e15 e16 e17 e18 e19 e20;obtain⟨e11_0,e11_1,e11_2,e11_3⟩:=e11;subst e0 e1 e2 e3 e4 e5 e6 e7 e8 e9 e10 e11_0 e11_1 e11_2 e11_3 e12 e13 e14 e15 e16 e17 e18 e19 e20;exact⟨⟨n0,b1,b2,n3,s4.data.toList,s5.data.toList,n6,s7.data.toList,b8,n9,b10,wl,b12,b13,s14.data.toList,s15.data.toList,b16,n17,l18,l19,l20⟩,⟨⟨a18,n18,c18⟩,⟨a19,n19,c19⟩,⟨a20,n20,c20⟩⟩,by simp[Pk.cells],⟨hl18,hl19,hl20⟩,⟨Nat.le_trans q4 (by decide),Nat.le_trans q5 (by decide),Nat.le_trans q7 (by decide),Nat.le_trans qt (by decide),Nat.le_trans qb (by decide),Nat.le_trans q14 (by decide),Nat.le_trans q15 (by decide),fun x hx=>Nat.le_trans (hq18 x hx) (by decide),fun x hx=>Nat.le_trans (hq20 x hx) (by decide)⟩⟩
theorem tn_ofB{w:World}{base:Nat}{held:Bool}{fuel:Nat}{cs:List Value}{x:DataW H×List MemPlace}(h:DataW.trod enc prog w base (fun _=>true) held fuel 55 cs=some x)(hb:Rows.uptoBulk x.1<=1048576):∃y:TnC,cs=y.cells/\(y.t.In w y.h y.hp/\PkS y.t.pk):=by
 obtain⟨xs,k,_,ex,hlen,hxl,hf⟩:=DataW.trod_struct underlying55 h;have hp:=part_bulk ex hb;have c7:prog.cellsOf 55=30:=by kernel_rfl
 rw[c7]at hlen;have i0:prog.cellsOf 44=1:=by kernel_rfl
 have i1:prog.cellsOf 2=1:=by kernel_rfl
 have i2:prog.cellsOf 52=24:=by kernel_rfl
 have i3:prog.cellsOf 9=1:=by kernel_rfl
 have i4:prog.cellsOf 53=1:=by kernel_rfl
 have i5:prog.cellsOf 3=1:=by kernel_rfl
 have i6:prog.cellsOf 49=1:=by kernel_rfl
 match cs,hlen with
 |[v0,v1,v2,v3,v4,v5,v6,v7,v8,v9,v10,v11,v12,v13,v14,v15,v16,v17,v18,v19,v20,v21,v22,v23,v24,v25,v26,v27,v28,v29],_=>
  have g0:DataW.trod enc prog w base (fun _=>true) held k 44 (([v0,v1,v2,v3,v4,v5,v6,v7,v8,v9,v10,v11,v12,v13,v14,v15,v16,v17,v18,v19,v20,v21,v22,v23,v24,v25,v26,v27,v28,v29].drop 0).take (prog.cellsOf 44))=xs[0]?:=hf 0 _ rfl;have g1:DataW.trod enc prog w base (fun _=>true) held k 2 (([v0,v1,v2,v3,v4,v5,v6,v7,v8,v9,v10,v11,v12,v13,v14,v15,v16,v17,v18,v19,v20,v21,v22,v23,v24,v25,v26,v27,v28,v29].drop 1).take (prog.cellsOf 2))=xs[1]?:=hf 1 _ rfl;have g2:DataW.trod enc prog w base (fun _=>true) held k 52 (([v0,v1,v2,v3,v4,v5,v6,v7,v8,v9,v10,v11,v12,v13,v14,v15,v16,v17,v18,v19,v20,v21,v22,v23,v24,v25,v26,v27,v28,v29].drop 2).take (prog.cellsOf 52))=xs[2]?:=hf 2 _ rfl;have g3:DataW.trod enc prog w base (fun _=>true) held k 9 (([v0,v1,v2,v3,v4,v5,v6,v7,v8,v9,v10,v11,v12,v13,v14,v15,v16,v17,v18,v19,v20,v21,v22,v23,v24,v25,v26,v27,v28,v29].drop 26).take (prog.cellsOf 9))=xs[3]?:=hf 3 _ rfl;have g4:DataW.trod enc prog w base (fun _=>true) held k 53 (([v0,v1,v2,v3,v4,v5,v6,v7,v8,v9,v10,v11,v12,v13,v14,v15,v16,v17,v18,v19,v20,v21,v22,v23,v24,v25,v26,v27,v28,v29].drop 27).take (prog.cellsOf 53))=xs[4]?:=hf 4 _ rfl;have g5:DataW.trod enc prog w base (fun _=>true) held k 3 (([v0,v1,v2,v3,v4,v5,v6,v7,v8,v9,v10,v11,v12,v13,v14,v15,v16,v17,v18,v19,v20,v21,v22,v23,v24,v25,v26,v27,v28,v29].drop 28).take (prog.cellsOf 3))=xs[5]?:=hf 5 _ rfl
  have g6:DataW.trod enc prog w base (fun _=>true) held k 49 (([v0,v1,v2,v3,v4,v5,v6,v7,v8,v9,v10,v11,v12,v13,v14,v15,v16,v17,v18,v19,v20,v21,v22,v23,v24,v25,v26,v27,v28,v29].drop 29).take (prog.cellsOf 49))=xs[6]?:=hf 6 _ rfl;rw[i0]at g0;rw[i1]at g1;rw[i2]at g2;rw[i3]at g3;rw[i4]at g4;rw[i5]at g5;rw[i6]at g6;have hxn:xs.length=7:=hxl;rw[List.getElem?_eq_getElem (by omega)]at g0 g1 g2 g3 g4 g5 g6;obtain⟨n0,e0,_⟩:=DataW.trod_int underlying44 g0;obtain⟨n1,e1,_⟩:=DataW.trod_int underlying2 g1;obtain⟨y,h3,e2,hy,hps⟩:=pk_ofB g2 (hp 2 (by omega));obtain⟨s3,e3,ex3,_⟩:=DataW.trod_string underlying9 g3;have q3:=text_bulk ex3 (hp 3 (by omega));obtain⟨n4,e4,_⟩:=DataW.trod_int underlying53 g4;obtain⟨n5,e5,_⟩:=DataW.trod_int underlying3 g5;obtain⟨a6,n6,c6,l6,e6,hl6,hq6⟩:=lsB_of iCl (size:=1) underlying49 (e:=3) (by kernel_rfl) (by decide) (fun _=>True) (fun h hb=>int_ofB h hb) g6 (hp 6 (by omega));simp only[List.drop_zero,List.drop_succ_cons,List.take_succ_cons,List.take_zero,List.cons.injEq,and_true,Pk.cells]at e0 e1 e2 e3 e4 e5 e6;obtain⟨e2_0,e2_1,e2_2,e2_3,e2_4,e2_5,e2_6,e2_7,e2_8,e2_9,e2_10,e2_11,e2_12,e2_13,e2_14,e2_15,e2_16,e2_17,e2_18,e2_19,e2_20,e2_21,e2_22,e2_23⟩:=e2;subst e0 e1 e2_0 e2_1 e2_2 e2_3 e2_4 e2_5 e2_6 e2_7 e2_8 e2_9 e2_10 e2_11 e2_12 e2_13 e2_14 e2_15 e2_16 e2_17 e2_18 e2_19 e2_20 e2_21 e2_22 e2_23 e3 e4 e5 e6;exact⟨⟨⟨n0,n1,y,s3.data.toList,n4,n5,l6⟩,h3,⟨a6,n6,c6⟩⟩,by simp[TnC.cells,Tn.cells],⟨⟨hy,hl6⟩,hps⟩⟩
theorem sc_ofB{w:World}{base:Nat}{held:Bool}{fuel:Nat}{cs:List Value}{x:DataW H×List MemPlace}(h:DataW.trod enc prog w base (fun _=>true) held fuel 30 cs=some x)(hb:Rows.uptoBulk x.1<=1048576):∃y:ScC,cs=y.cells/\y.In w/\∀x∈y.ts,PkS x.t.pk:=by
 obtain⟨xs,k,_,ex,hlen,hxl,hf⟩:=DataW.trod_struct underlying30 h;have hp:=part_bulk ex hb;have c7:prog.cellsOf 30=9:=by kernel_rfl
 rw[c7]at hlen;have i0:prog.cellsOf 27=7:=by kernel_rfl
 have i1:prog.cellsOf 3=1:=by kernel_rfl
 have i2:prog.cellsOf 28=1:=by kernel_rfl
 match cs,hlen with
 |[v0,v1,v2,v3,v4,v5,v6,v7,v8],_=>have g0:DataW.trod enc prog w base (fun _=>true) held k 27 (([v0,v1,v2,v3,v4,v5,v6,v7,v8].drop 0).take (prog.cellsOf 27))=xs[0]?:=hf 0 _ rfl;have g1:DataW.trod enc prog w base (fun _=>true) held k 3 (([v0,v1,v2,v3,v4,v5,v6,v7,v8].drop 7).take (prog.cellsOf 3))=xs[1]?:=hf 1 _ rfl;have g2:DataW.trod enc prog w base (fun _=>true) held k 28 (([v0,v1,v2,v3,v4,v5,v6,v7,v8].drop 8).take (prog.cellsOf 28))=xs[2]?:=hf 2 _ rfl;rw[i0]at g0;rw[i1]at g1;rw[i2]at g2;have hxn:xs.length=3:=hxl;rw[List.getElem?_eq_getElem (by omega)]at g0 g1 g2;obtain⟨cf,e0⟩:=cf_of g0;obtain⟨n1,e1,_⟩:=DataW.trod_int underlying3 g1;obtain⟨a2,n2,c2,l2,e2,hl2,hq2⟩:=lsB_of TnC.cells (size:=30) underlying28 (e:=55) (by kernel_rfl) (by decide) (fun y=>y.t.In w y.h y.hp/\PkS y.t.pk) (fun h hb=>tn_ofB h hb) g2 (hp 2 (by omega));simp only[List.drop_zero,List.drop_succ_cons,List.take_succ_cons,List.take_zero,List.cons.injEq,and_true,CfV.cl]at e0 e1 e2;obtain⟨e0_0,e0_1,e0_2,e0_3,e0_4,e0_5,e0_6⟩:=e0;subst e0_0 e0_1 e0_2 e0_3 e0_4 e0_5 e0_6 e1 e2;exact⟨⟨cf,n1,⟨a2,n2,c2⟩,l2⟩,by simp[ScC.cells],⟨hl2,fun x hx=>(hq2 x hx).1⟩,fun x hx=>(hq2 x hx).2⟩
theorem scriptB_of{w:World}{held:Bool}{v:Value}{x:DataW H×List MemPlace}(h:∃fuel,DataW.trod enc prog w 0 (fun _=>true) held fuel 30 v.cells.toList=some x)(hb:Rows.uptoBulk x.1<=1048576):∃y:ScC,v=.agg y.cells.toArray/\y.In w/\∀x∈y.ts,PkS x.t.pk:=by
 obtain⟨y,rfl,_⟩:=script_of h;obtain⟨fuel,hf⟩:=h;obtain⟨z,hz,hin,hp⟩:=sc_ofB hf hb;refine⟨z,?_,hin,hp⟩;have hz2:y.cells=z.cells:=by simpa[Value.cells]using hz
 rw[hz2]
end
section
attribute [local go_sem] Oper.semAt_some
def RawPkOK(C:PkCode)(p:Pk)(h:H3):Prop:=∀W,p.In W h->rightP p->Calls prog 54 #[.agg (p.cells h).toArray] W fun e w'=>∃v,e=.returned (.tuple #[v,.int .i64 0])/\w'.ownsRow W.heap.size 5 1 v (C.raw p).length (bs (C.raw p))/\Below W.heap.size W w'
theorem puts_nil{F:List Nat}{p:Nat}{l:List UInt8}{W:World}{e:Ending}{w':World}(hW:Wr W F p l)(hl:l.length<=65536)(h:e=.returned (.tuple #[])/\Below W.heap.size W w'):Puts F p l [] W e w':=
 ⟨F,Stp.below h.2,.inl ⟨by unfold fits;rw[decide_eq_true_eq];simpa using hl,h.1,by rw[List.append_nil];exact hW.below h.2⟩⟩
theorem sc_write8(C:PkCode){w:World}{F:List Nat}{p:Nat}{l:List UInt8}(h:Wr w F p l)(hl:l.length<=65536)(x:TnC)(hin:x.t.In w x.h x.hp)(hr:rightP x.t.pk)(hP:RawPkOK C x.t.pk x.h):
  Calls prog 53 #[.agg #[.pointer (some ⟨p,0,none⟩)],.agg x.cells.toArray] w (Puts F p l (txtB (C.raw x.t.pk)) w):=by
 obtain⟨cs,hcs⟩:=gen_of x.cells.toArray;obtain⟨W0,hW0⟩:=gen_of ((w.alloc (.cells #[.pointer (some ⟨p,0,none⟩)] 102)).alloc (.cells cs 55));have b1:Blk W0 w.heap.size #[.pointer (some ⟨p,0,none⟩)] 102:=by rw[<-hW0];exact(Blk.new _ _ _).alloc _
 have b2:Blk W0 (w.heap.size+1) cs 55:=by rw[<-hW0];have:=Blk.new (w.alloc (.cells #[.pointer (some ⟨p,0,none⟩)] 102)) cs 55;simpa using this
 have B0:Below w.heap.size w W0:=by rw[<-hW0];exact(bel_refl.alloc nat_le_rfl _).alloc (by simp) _
 have kr:W0.rangeAt (w.heap.size+1) 2 (x.t.pk.cells x.h):=by have h1:=b2;rw[<-hcs]at h1;exact h1.mid [.int .i64 x.t.kind,.int .i64 x.t.conn] (x.t.pk.cells x.h) [.string ⟨x.t.bytes.toArray⟩,.int .i64 x.t.arm,.int .i64 x.t.n,.slice x.hp.a x.hp.n x.hp.c] (Tn.cells_eq x.t x.h x.hp)
 have CP:=hid (hP W0 (hin.below B0).pk hr);have hlen:=hid (C.len _ hr);obtain⟨m,hm⟩:=gen_of (C.raw x.t.pk);obtain⟨pc,hpc⟩:=gen_of (x.t.pk.cells x.h);have hpl:Hid ((prog.info? 52).map (·.size)=some pc.length):=hid (by rw[<-hpc];exact(by kernel_rfl:(prog.info? 52).map (·.size)=some 24));rw[hm]at CP hlen ⊢;rw[hpc]at kr CP;have S0:=hid (Stp.below (F:=F) B0);have HW:=hid (h.below B0);have HB1:=hid b1;rw[hcs];clear hcs b2 B0 hm hpc hin hr hP h b1;replace hl:=hid hl;go_enter func53,ntmps53;go_wp2_with (refine wLm 52 rfl rfl kr underlying52 ?_ rfl rfl hpl.out)
 refine CP.mono ?_;rintro e w1 ⟨v,rfl,hv,hb1⟩;obtain⟨av,cv,rfl,hrow⟩:=RowAt.of_own hv;have hstr:=run_str hrow;have bx:=HB1.below hb1;have CT:=hid (sc_wtext (HW.below hb1) hl.out m (by have:=hlen.out;omega));have S1:=hid (S0.trans (Stp.below (F:=F) hb1));clear hv hrow hb1 kr;go_wp2_with (refine wL 102 rfl rfl bx underlying102 ?_);refine CT.mono ?_;rintro e w2 ⟨F1,hs1,⟨⟨_,hf⟩,rfl,hw1⟩ | ⟨hf,rfl⟩⟩
 ·have H:=hid (show Puts F p l (txtB m) w (.returned (.tuple #[])) w2 from⟨F1,S1.trans hs1,.inl ⟨hf,rfl,hw1⟩⟩);clear hs1 hf hw1;go_wp2_with fail
  go_end0
  exact H.out
 refine⟨rfl,⟨F1,S1.trans hs1,.inr ⟨?_,rfl⟩⟩⟩;cases hx:fits l (txtB m)with
 | false=>rfl
 | true=>exact absurd ⟨by have:=hlen.out;omega,hx⟩ hf
theorem writeDo_of(C:PkCode)(w0:World)(x:TnC)(hx:x.t.In w0 x.h x.hp)(hr:rightT x.t)(h2:x.t.kind=2->RawPkOK C x.t.pk x.h):WriteDo C w0 x:=fun c v hv=>by
 have hk8:=rightT_kind hr;have hm:=hr.1;obtain⟨k,hk⟩:=gen_of x.t.kind;rw[hk]at hv h2 hk8;unfold mayT at hm;rw[hk]at hm;have hoff:∀F:List Nat,(∀b∈F,w0.heap.size<=b)->x.t.picks≠[]->∀y,x.hp.a=some y->y.block∉F:=fun F hF hne y hy hm'=>by obtain⟨z,hz⟩:∃z,x.t.picks[0]?=some z:=⟨_,List.getElem?_eq_getElem (List.length_pos_iff.2 hne)⟩;obtain⟨g,off,e,hg, -⟩:=hx.p.at' 0 z hz;rw[hy]at e;cases e;have:=hF _ hm';dsimp only at this;omega
 have:k=1\/k=2\/k=3\/k=4\/k=5\/k=6\/k=7\/k=8:=by omega
 rcases this with rfl | rfl | rfl | rfl | rfl | rfl | rfl | rfl
 ·obtain rfl:bareV=v:=Option.some.inj hv;refine⟨_,_,_,_,_,_,_,_,rfl,enters_of func47 (by kernel_rfl) rfl,fun W F p l hB hW hl hF=>?_⟩;have hpt:partB C x.t=[]:=by unfold partB;simp[hk]
  rw[hpt];exact(sc_write3 _ _ W).mono fun e w' h=>puts_nil hW hl h
 ·obtain rfl:sayV c=v:=Option.some.inj hv;have hmp:rightP x.t.pk:=by simp at hm;exact hm.2
  refine⟨_,_,_,_,_,_,_,_,rfl,enters_of func53 (by kernel_rfl) rfl,fun W F p l hB hW hl hF=>?_⟩;have hpt:partB C x.t=txtB (C.raw x.t.pk):=by unfold partB;simp[hk]
  rw[hpt];exact sc_write8 C hW hl x (hx.below hB) hmp (h2 rfl)
 ·obtain rfl:bytesV c=v:=Option.some.inj hv;refine⟨_,_,_,_,_,_,_,_,rfl,enters_of func60 (by kernel_rfl) rfl,fun W F p l hB hW hl hF=>?_⟩;have hpt:partB C x.t=txtB x.t.bytes:=by unfold partB;simp[hk]
  rw[hpt];exact sc_write12 hW hl x.t x.h x.hp (by(simp at hm;omega))
 ·obtain rfl:bareV=v:=Option.some.inj hv;refine⟨_,_,_,_,_,_,_,_,rfl,enters_of func47 (by kernel_rfl) rfl,fun W F p l hB hW hl hF=>?_⟩;have hpt:partB C x.t=[]:=by unfold partB;simp[hk]
  rw[hpt];exact(sc_write3 _ _ W).mono fun e w' h=>puts_nil hW hl h
 ·obtain rfl:emptyV=v:=Option.some.inj hv;refine⟨_,_,_,_,_,_,_,_,rfl,enters_of func47 (by kernel_rfl) rfl,fun W F p l hB hW hl hF=>?_⟩;have hpt:partB C x.t=[]:=by unfold partB;simp[hk]
  rw[hpt];exact(sc_write3 _ _ W).mono fun e w' h=>puts_nil hW hl h
 ·obtain rfl:emptyV=v:=Option.some.inj hv;refine⟨_,_,_,_,_,_,_,_,rfl,enters_of func47 (by kernel_rfl) rfl,fun W F p l hB hW hl hF=>?_⟩;have hpt:partB C x.t=[]:=by unfold partB;simp[hk]
  rw[hpt];exact(sc_write3 _ _ W).mono fun e w' h=>puts_nil hW hl h
 ·obtain rfl:armV=v:=Option.some.inj hv;refine⟨_,_,_,_,_,_,_,_,rfl,enters_of func64 (by kernel_rfl) rfl,fun W F p l hB hW hl hF=>?_⟩;have hpt:partB C x.t=numB 1 x.t.arm.toNat++numB 2 (x.t.n+1).toNat:=by unfold partB;simp[hk]
  rw[hpt];exact sc_write16 hW hl x.t x.h x.hp (by(simp at hm;omega)) (by(simp at hm;omega))
 obtain rfl:crashV=v:=Option.some.inj hv;refine⟨_,_,_,_,_,_,_,_,rfl,enters_of func71 (by kernel_rfl) rfl,fun W F p l hB hW hl hF=>?_⟩;have hpt:partB C x.t=numB 1 x.t.picks.length++x.t.picks.flatMap (fun z=>numB 1 z.toNat):=by unfold partB;simp[hk]
 rw[hpt];exact sc_write20 hW hl x.t x.h x.hp (hx.p.below hB) (fun hne y hy hm'=>hoff F hF hne y hy hm') (by(simp at hm;omega)) (by(simp at hm;exact hm.2))
end
end Go.Proofs.YtkghejaimhoboaaGreatDoor
