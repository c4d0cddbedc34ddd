/- Parts of the proof of ScriptTurns. -/
import Derived.Test.YtkghejaimhoboaaGreatDoorPk09
import Derived.Laws.Externs
set_option linter.unusedSimpArgs false
set_option linter.unusedVariables false
set_option maxRecDepth 100000
set_option maxHeartbeats 8000000
namespace Go.Proofs.YtkghejaimhoboaaGreatDoor
open Go.RowKit Go.Shelf Go.Proofs.Tryz
theorem Od(r:aP)(w:World):Calls prog 225 #[.agg r.vals] w fun e w'=>e=.returned (.int .i64 r.kind)/\Below w.heap.size w w':=by unfold aP.vals;go_enter func225,ntmps225;go_wp2;go_ret;exact⟨rfl,(Below.refl _ w).alloc ah _⟩
def ct(l:List aP)(k:Int):List aP:=l.filter fun r=>decide (r.kind=k)
structure PM (w:World)(base m:Nat)(l:List aP)(G:Int->Option Value):Prop where
 map:IM .i64 w m G
 rows:∀k,rF w base ((G k).getD (.slice none 0 0)) (ct l k)
 no:∀k,ct l k=[]->G k=none
 apart:∀k k' b,k≠k'->((G k).getD (.slice none 0 0)).ownBlock=some b->((G k').getD (.slice none 0 0)).ownBlock≠some b
theorem PM.ag{w w':World}{base m:Nat}{l:List aP}{G:Int->Option Value}(h:PM w base m l G)(hb:Below w.heap.size w w'):PM w' base m l G:=
 ⟨h.map.ag hb,fun k=>aB (h.rows k) hb,h.no,h.apart⟩
theorem gq{w:World}{b:Nat}{G:Int->Option Value}{q:IntKind}(h:IM q w b G){e:TypeId}{base size n:Nat}{v:Value}{xs:List Value}(hr:w.ownsRow base e size v n xs):v.ownBlock≠some b:=by
 obtain⟨es,clock,hb,_⟩:=h;obtain⟨_,⟨rfl,_⟩ | ⟨g,cap,cur,rfl,_,hg,_⟩⟩:=hr
 ·simp[Value.ownBlock]
 intro he;simp only[Value.ownBlock,Option.some.injEq]at he;subst he;rw[hb]at hg;cases hg
theorem mX{w w':World}{base size n:Nat}{e:TypeId}{v:Value}{xs:List Value}{o:Option Nat}(h:w.ownsRow base e size v n xs)(hg:w.grownBy w' o)(hne:∀b,v.ownBlock=some b->o≠some b):w'.ownsRow base e size v n xs:=by
 obtain⟨hl,hx | ⟨g,cap,cur,rfl,hb,hh,hx⟩⟩:=h
 ·exact⟨hl,.inl hx⟩
 exact⟨hl,.inr ⟨g,cap,cur,rfl,hb,(hg.block g (Array.getElem?_eq_some_iff.1 hh).1 (fun he=>hne g rfl he.symm)).trans hh,hx⟩⟩
theorem sq(l:List aP)(r:aP)(k:Int):ct (l++[r]) k=if r.kind=k then ct l k++[r]else ct l k:=by unfold ct;rw[List.filter_append];by_cases h:r.kind=k<;>simp[h]
theorem PM.put{w w1 w2:World}{base m:Nat}{l:List aP}{G:Int->Option Value}{r:aP}{v':Value}(h:PM w base m l G)
  (hown:w1.ownsRow base 136 9 v' ((ct l r.kind).length+1) ((ct l r.kind).flatMap aP.cl++r.cl)) (g1:w.grownBy w1 ((G r.kind).getD (.slice none 0 0)).ownBlock)
  (n1:∀k,v'.ownBlock=some k->((G r.kind).getD (.slice none 0 0)).ownBlock=some k\/w.heap.size<=k) (hm:m<w.heap.size)
  (him:IM .i64 w2 m (fun k=>if k=r.kind then some v' else G k)) (hg2:w1.grownBy w2 (some m)):PM w2 base m (l++[r]) (fun k=>if k=r.kind then some v' else G k):=by
 have Jq:IM .i64 w1 m G:=h.map.grown g1 (gq h.map (h.rows r.kind));refine⟨him,fun k=>?_,fun k hk=>?_,fun k k' b oH hb hb'=>?_⟩
 ·rw[sq];by_cases hk:k=r.kind
  ·subst hk;rw[if_pos rfl,if_pos rfl,Option.getD_some];have:w1.ownsRow base 136 9 v' (ct l r.kind++[r]).length ((ct l r.kind++[r]).flatMap aP.cl):=by simpa using hown
   exact mX this hg2 (fun b hb he=>gq Jq hown (by cases he;exact hb))
  rw[if_neg hk,if_neg (fun e=>hk e.symm)];refine mX (mX (h.rows k) g1 (fun b hb he=>h.apart k r.kind b hk hb he)) hg2 (fun b hb he=>?_);cases he;exact gq h.map (h.rows k) hb
 ·rw[sq]at hk;by_cases Km:r.kind=k
  ·rw[if_pos Km]at hk;simp at hk
  rw[if_neg Km]at hk;try dsimp only
  show(if k=r.kind then _ else _)=_;rw[if_neg (fun e=>Km e.symm)];exact h.no k hk
 by_cases h1:k=r.kind
 ·rw[if_pos h1,Option.getD_some]at hb;have h2:¬k'=r.kind:=fun e=>oH (h1.trans e.symm);rw[if_neg h2]at hb';rcases n1 b hb with h3 | h3
  ·exact h.apart r.kind k' b (fun e=>h2 e.symm) h3 hb'
  have:=((h.rows k').lt b hb').2;omega
 rw[if_neg h1]at hb;by_cases h2:k'=r.kind
 ·rw[if_pos h2,Option.getD_some]at hb';rcases n1 b hb' with h3 | h3
  ·exact h.apart k r.kind b h1 hb h3
  have:=((h.rows k).lt b hb).2;omega
 rw[if_neg h2]at hb';exact h.apart k k' b oH hb hb'
structure Zi (n b:Nat)(r:aP)(l:List aP)(G:Int->Option Value)(w W:World):Prop where
 ag:Below n w W
 blk:ar W b r.vals 136
 pm:PM W n n l G
 base:n<W.heap.size
 nb:n<b
 ap:∀k x,((G k).getD (.slice none 0 0)).ownBlock=some x->x<b
theorem Zi.step{n b:Nat}{r:aP}{l:List aP}{G:Int->Option Value}{w W W':World}(h:Zi n b r l G w W)(hb:Below W.heap.size W W'):Zi n b r l G w W':=
 ⟨h.ag.trans (hb.mono (Nat.le_of_lt h.base)),h.blk.ag hb,h.pm.ag hb,Nat.lt_of_lt_of_le h.base hb.size,h.nb,h.ap⟩
theorem uS(base:Nat)(v:Value)(l:List aP)(w:World)(hv:rF w base v l)(hl:l.length<=1000000):
  Calls prog 224 #[v,.func (.func 225) #[] #[]] w fun e w'=>∃m G,e=.returned (.map (some m))/\PM w' w.heap.size m l G/\w.heap.size<=m/\Below w.heap.size w w':=by
 obtain⟨a,cap,rfl⟩:=aA hv;have C1:=af Od;have HV:=af hv;clear hv;have Fa:= @run_makeMap prog;go_enter func224,ntmps224;go_wp2;go_loopw [11] (fun i wr=>∃(k:Nat)(G:Int->Option Value),i=.int .i64 k/\k<=l.length/\Hid (PM wr w.heap.size w.heap.size (l.take k) G)/\Hid (Below w.heap.size w wr)) (fun i _=>l.length-(intOf i).toNat)
 case atStart=>exact⟨0,_,rfl,Nat.zero_le _,af ⟨IM.new w,fun k=>World.ownsRow_nil _ _ _ _,fun _ _=>rfl,fun _ _ _ _ h=>by simp[Value.ownBlock]at h⟩,af ((Below.refl _ w).alloc ah _)⟩
 case round=>
  obtain⟨k,G,rfl,hk,sr,hbr⟩:=hrel;rcases Nat.lt_or_ge k l.length with hlt | jw
  ·have dk:decide ((k:Int)<(l.length:Int))=true:=decide_eq_true (by omega);obtain⟨r,hr⟩:∃r,l[k]?=some r:=⟨_,List.getElem?_eq_getElem hlt⟩;obtain⟨g,rfl,agE,hrow⟩:=jB aP.cl aP.uN rfl (aB HV.out hbr.out) hr;have hrow:=af hrow;have Dm:=af (show l.take (k+1)=l.take k++[r] by rw[List.take_add_one,hr];rfl);have hr:=af hr;go_wp2_with (first
    | (refine wpList_load_mid rfl 136 _ rfl g (k*9) rfl r.cl _ hrow.out underlying136 rfl (by kernel_rfl) ?_)
    | (refine wS 136 9 rfl wr.heap.size _ r.cl.toArray rfl rfl (ar.new wr _ _) rfl rfl r.one ?_;intro w2 hb2 hw2))
   have jC:=af (((Below.refl _ wr).alloc ah (.cells #[.int .i64 0,.string ⟨#[]⟩,.int .i64 0,.int .i64 0,.string ⟨#[]⟩,.string ⟨#[]⟩,.int .i64 0,.bool false,.int .i64 0] 136)).trans (hw2.ag (by simp) (by simp)));have V8:=af (hbr.out.trans (jC.mono hbr.out.size));have Aa:=af (sr.out.ag jC.out);have hb2:=af hb2;clear hw2 jC;have hst:=af (show Zi w.heap.size wr.heap.size r (l.take k) G w w2.drew from⟨V8.drew,hb2.drew,Aa.ag ai.drew,by have:=hbr.out.size;have:=hb2.lt;simp;omega,sr.out.map.lt,fun k x hx=>((sr.out.rows k).lt x hx).2⟩);refine aH [(1000,fun w'=>ar w' wr.heap.size r.vals 136),(12,fun w'=>IM .i64 w' w.heap.size G)] (by kernel_rfl) ⟨hb2.drew,hst.pm.map,trivial⟩ fun KQ aL=>?_;try simp only[PT]
   refine tQ [0,1,4,5] ?_;refine lR 2 0 rfl rfl rfl rfl (fun w' hf=>aM hf 136 underlying136 rfl (by kernel_rfl)) ?_;simp only[PT];refine lR 6 0 rfl rfl rfl rfl (fun w' hf=>aM hf 136 underlying136 rfl (by kernel_rfl)) ?_;simp only[PT];refine lR 9 0 rfl rfl rfl rfl (fun w' hf=>aM hf 136 underlying136 rfl (by kernel_rfl)) ?_;simp only[PT];clear hbr V8 sr Aa hb2;refine x6 3 10 rfl rfl (by kernel_rfl) (by decide) (by kernel_rfl) (by kernel_rfl) (fun K hK=>?_) (fun K hK=>?_)
   ·try simp only[GO]
    go_simp;refine(C1 r _).mono ?_;rintro e w3 ⟨rfl,o0⟩;replace hst:=af (hst.step o0);clear o0;refine hK _ _ ⟨⟨fun _=>hst.blk,fun _=>hst.pm.map,trivial⟩,?_⟩;clear hK K;try simp only[PT]
    refine x6 7 10 rfl rfl (by kernel_rfl) (by decide) (by kernel_rfl) (by kernel_rfl) (fun K hK=>?_) (fun K hK=>?_)
    ·try simp only[GO]
     go_simp;refine(C1 r _).mono ?_;rintro e w4 ⟨rfl,o0⟩;replace hst:=af (hst.step o0);clear o0;refine hK _ _ ⟨⟨fun _=>hst.blk,fun _=>hst.pm.map,trivial⟩,?_⟩;clear hK K;try simp only[PT]
     refine gM 8 rfl (by kernel_rfl) (by kernel_rfl) rfl rfl rfl 1 rfl (by kernel_rfl) ((G r.kind).getD (.slice none 0 0)) (fun w' hf=>ed 264 133 122 underlying264 underlying133 hf (.slice none 0 0) (by kernel_rfl) r.kind false) ?_;try simp only[PT]
     refine sQ 10 fun K hK=>?_;simp only[GO];try simp only[GO]
     refine dF _ rfl yt (by decide) (by decide) (.agg r.cl.toArray) rfl rfl ?_;have hgb:=af (ar.new (w4) r.cl.toArray 136);replace hst:=af (hst.step ((Below.refl _ (w4)).alloc ah (.cells r.cl.toArray 136)));refine hK _ _ ⟨⟨fun _=>hst.blk,fun _=>hst.pm.map,trivial⟩,?_⟩;clear hK K;try simp only[PT]
     refine sQ 11 fun K hK=>?_;simp only[GO];refine kK _ _ rfl yt (by decide) w.heap.size ((G r.kind).getD (.slice none 0 0)) _ _ rfl (hst.pm.rows r.kind) w4.heap.size r.cl 136 rfl hgb.out rfl r.one (by have:=List.length_filter_le (fun x:aP=>decide (x.kind=r.kind)) (l.take k);unfold ct;simp at this ⊢;omega) (by have:=List.length_filter_le (fun x:aP=>decide (x.kind=r.kind)) (l.take k);unfold ct;simp at this ⊢;omega) (Nat.le_of_lt hst.base) fun v' w5 r5 g5 n5=>?_;have Ha:=af g5;have Ac:=af (hst.pm.map.grown g5 (gq hst.pm.map (hst.pm.rows r.kind)));have uT:=af (ar.keep hst.blk (g5.block _ hst.blk.lt (fun he=>by have:=hst.ap r.kind _ he.symm;omega)));refine hK _ _ ⟨⟨fun _=>uT.out,fun _=>Ac.out,trivial⟩,?_⟩;clear hK K;try simp only[PT]
     refine sQ 12 fun K hK=>?_;simp only[GO];refine lT _ _ _ 264 rfl 133 122 underlying264 underlying133 Ac.out rfl r.kind v' rfl rfl fun w6 Kn xt=>?_;have Ko:=af (hst.pm.put (r:=r) r5 Ha.out n5 hst.base Kn xt);have Kq:=af (hst.ag.grown Ha.out (Nat.le_of_lt hst.base) (fun x hx=>((hst.pm.rows r.kind).lt x hx).1));have Kr:=af (Kq.grown xt (Nat.le_trans (Nat.le_of_lt hst.base) Ha.size) (fun x hx=>by cases hx;exact Nat.le_refl _));have Ks:=af (ar.keep uT.out (xt.block _ uT.lt (fun he=>by have:=hst.nb;simp only[Option.some.injEq]at he;omega)));refine hK _ _ ⟨⟨fun _=>Ks.out,fun h=>absurd (show true=false from h) (by decide),trivial⟩,?_⟩;clear hK K;try simp only[PT]
     refine dQ (aL.out _ _ ?_);clear aL KQ;go_wp2;go_roundw
     case rel=>exact⟨k+1,_,by go_num,by omega,by rw[Dm.out];exact Ko,Kr⟩
     case measure=>simp[intOf];omega
    skip;try simp only[GO]
    refine dF _ rfl yt (by decide) (by decide) (.agg r.cl.toArray) rfl rfl ?_;have hgb:=af (ar.new (w3) r.cl.toArray 136);replace hst:=af (hst.step ((Below.refl _ (w3)).alloc ah (.cells r.cl.toArray 136)));refine hK _ _ ⟨⟨fun _=>hst.blk,fun _=>hst.pm.map,trivial⟩,?_⟩;clear hK K;try simp only[PT]
    refine sQ 7 fun K hK=>?_;simp only[GO];try simp only[GO]
    go_simp;refine(C1 r _).mono ?_;rintro e w4 ⟨rfl,o0⟩;replace hst:=af (hst.step o0);replace hgb:=af (hgb.ag o0);clear o0;refine hK _ _ ⟨⟨fun _=>hst.blk,fun _=>hst.pm.map,trivial⟩,?_⟩;clear hK K;try simp only[PT]
    refine gM 8 rfl (by kernel_rfl) (by kernel_rfl) rfl rfl rfl 1 rfl (by kernel_rfl) ((G r.kind).getD (.slice none 0 0)) (fun w' hf=>ed 264 133 122 underlying264 underlying133 hf (.slice none 0 0) (by kernel_rfl) r.kind false) ?_;try simp only[PT]
    refine sQ 11 fun K hK=>?_;simp only[GO];refine kK _ _ rfl yt (by decide) w.heap.size ((G r.kind).getD (.slice none 0 0)) _ _ rfl (hst.pm.rows r.kind) w3.heap.size r.cl 136 rfl hgb.out rfl r.one (by have:=List.length_filter_le (fun x:aP=>decide (x.kind=r.kind)) (l.take k);unfold ct;simp at this ⊢;omega) (by have:=List.length_filter_le (fun x:aP=>decide (x.kind=r.kind)) (l.take k);unfold ct;simp at this ⊢;omega) (Nat.le_of_lt hst.base) fun v' w5 r5 g5 n5=>?_;have Ha:=af g5;have Ac:=af (hst.pm.map.grown g5 (gq hst.pm.map (hst.pm.rows r.kind)));have uT:=af (ar.keep hst.blk (g5.block _ hst.blk.lt (fun he=>by have:=hst.ap r.kind _ he.symm;omega)));refine hK _ _ ⟨⟨fun _=>uT.out,fun _=>Ac.out,trivial⟩,?_⟩;clear hK K;try simp only[PT]
    refine sQ 12 fun K hK=>?_;simp only[GO];refine lT _ _ _ 264 rfl 133 122 underlying264 underlying133 Ac.out rfl r.kind v' rfl rfl fun w6 Kn xt=>?_;have Ko:=af (hst.pm.put (r:=r) r5 Ha.out n5 hst.base Kn xt);have Kq:=af (hst.ag.grown Ha.out (Nat.le_of_lt hst.base) (fun x hx=>((hst.pm.rows r.kind).lt x hx).1));have Kr:=af (Kq.grown xt (Nat.le_trans (Nat.le_of_lt hst.base) Ha.size) (fun x hx=>by cases hx;exact Nat.le_refl _));have Ks:=af (ar.keep uT.out (xt.block _ uT.lt (fun he=>by have:=hst.nb;simp only[Option.some.injEq]at he;omega)));refine hK _ _ ⟨⟨fun _=>Ks.out,fun h=>absurd (show true=false from h) (by decide),trivial⟩,?_⟩;clear hK K;try simp only[PT]
    refine dQ (aL.out _ _ ?_);clear aL KQ;go_wp2;go_roundw
    case rel=>exact⟨k+1,_,by go_num,by omega,by rw[Dm.out];exact Ko,Kr⟩
    case measure=>simp[intOf];omega
   skip;try simp only[GO]
   refine dF _ rfl yt (by decide) (by decide) (.agg r.cl.toArray) rfl rfl ?_;have hgb:=af (ar.new (w2.drew) r.cl.toArray 136);replace hst:=af (hst.step ((Below.refl _ (w2.drew)).alloc ah (.cells r.cl.toArray 136)));refine hK _ _ ⟨⟨fun _=>hst.blk,fun _=>hst.pm.map,trivial⟩,?_⟩;clear hK K;try simp only[PT]
   refine sQ 3 fun K hK=>?_;simp only[GO];try simp only[GO]
   go_simp;refine(C1 r _).mono ?_;rintro e w3 ⟨rfl,o0⟩;replace hst:=af (hst.step o0);replace hgb:=af (hgb.ag o0);clear o0;refine hK _ _ ⟨⟨fun _=>hst.blk,fun _=>hst.pm.map,trivial⟩,?_⟩;clear hK K;try simp only[PT]
   refine sQ 7 fun K hK=>?_;simp only[GO];try simp only[GO]
   go_simp;refine(C1 r _).mono ?_;rintro e w4 ⟨rfl,o0⟩;replace hst:=af (hst.step o0);replace hgb:=af (hgb.ag o0);clear o0;refine hK _ _ ⟨⟨fun _=>hst.blk,fun _=>hst.pm.map,trivial⟩,?_⟩;clear hK K;try simp only[PT]
   refine gM 8 rfl (by kernel_rfl) (by kernel_rfl) rfl rfl rfl 1 rfl (by kernel_rfl) ((G r.kind).getD (.slice none 0 0)) (fun w' hf=>ed 264 133 122 underlying264 underlying133 hf (.slice none 0 0) (by kernel_rfl) r.kind false) ?_;try simp only[PT]
   refine sQ 11 fun K hK=>?_;simp only[GO];refine kK _ _ rfl yt (by decide) w.heap.size ((G r.kind).getD (.slice none 0 0)) _ _ rfl (hst.pm.rows r.kind) w2.heap.size r.cl 136 rfl hgb.out rfl r.one (by have:=List.length_filter_le (fun x:aP=>decide (x.kind=r.kind)) (l.take k);unfold ct;simp at this ⊢;omega) (by have:=List.length_filter_le (fun x:aP=>decide (x.kind=r.kind)) (l.take k);unfold ct;simp at this ⊢;omega) (Nat.le_of_lt hst.base) fun v' w5 r5 g5 n5=>?_;have Ha:=af g5;have Ac:=af (hst.pm.map.grown g5 (gq hst.pm.map (hst.pm.rows r.kind)));have uT:=af (ar.keep hst.blk (g5.block _ hst.blk.lt (fun he=>by have:=hst.ap r.kind _ he.symm;omega)));refine hK _ _ ⟨⟨fun _=>uT.out,fun _=>Ac.out,trivial⟩,?_⟩;clear hK K;try simp only[PT]
   refine sQ 12 fun K hK=>?_;simp only[GO];refine lT _ _ _ 264 rfl 133 122 underlying264 underlying133 Ac.out rfl r.kind v' rfl rfl fun w6 Kn xt=>?_;have Ko:=af (hst.pm.put (r:=r) r5 Ha.out n5 hst.base Kn xt);have Kq:=af (hst.ag.grown Ha.out (Nat.le_of_lt hst.base) (fun x hx=>((hst.pm.rows r.kind).lt x hx).1));have Kr:=af (Kq.grown xt (Nat.le_trans (Nat.le_of_lt hst.base) Ha.size) (fun x hx=>by cases hx;exact Nat.le_refl _));have Ks:=af (ar.keep uT.out (xt.block _ uT.lt (fun he=>by have:=hst.nb;simp only[Option.some.injEq]at he;omega)));refine hK _ _ ⟨⟨fun _=>Ks.out,fun h=>absurd (show true=false from h) (by decide),trivial⟩,?_⟩;clear hK K;try simp only[PT]
   refine dQ (aL.out _ _ ?_);clear aL KQ;go_wp2;go_roundw
   case rel=>exact⟨k+1,_,by go_num,by omega,by rw[Dm.out];exact Ko,Kr⟩
   case measure=>simp[intOf];omega
  obtain rfl:k=l.length:=by omega
  have dk:decide ((l.length:Int)<(l.length:Int))=false:=by simp
  rw[List.take_length]at sr;go_wp2;go_ret;exact⟨_,_,rfl,sr.out,Nat.le_refl _,hbr.out⟩
theorem Kz(W:World):(Builtin.append_ #[122,122] 122 #[.slice none 0 0,.slice none 0 0]).run prog W=.ok (.slice none 0 0) W:=by kernel_rfl
theorem KA(w:World):Calls prog 268 #[.slice none 0 0,.int .i64 0] w fun e w'=>e=.returned (.slice none 0 0)/\w=w':=by go_enter func268,ntmps268;go_wp2;go_ret;exact⟨rfl,rfl⟩
theorem concat_nil(g:Nat)(w:World)(h:ar w g #[.slice none 0 0,.slice none 0 0] 122):
  Calls prog 228 #[.slice (some ⟨g,0,none⟩) 2 2] w fun e w'=>e=.returned (.slice none 0 0)/\w=w':=by
 have CG:=af KA;have ha:=Kz;have c0:w.cell? ⟨g,0,none⟩=some (.slice none 0 0):=h.cell 0;have c1:w.cell? ⟨g,1,none⟩=some (.slice none 0 0):=h.cell 1;have hc:∀k,k<2->w.cell? ⟨g,k,none⟩=some (.slice none 0 0):=fun k hk=>by
  rcases(by omega:k=0\/k=1)with rfl | rfl
  ·exact c0
  exact c1
 have hc:=af hc;clear c0 c1;go_enter func228,ntmps228;go_wp2;go_loopw [3,5,11] (fun s _ i wr=>∃(k:Nat),s=.int .i64 0/\i=.int .i64 k/\k<=2/\w=wr) (fun _ _ i _=>2-(intOf i).toNat)
 case atStart=>exact⟨0,rfl,rfl,by omega,rfl⟩
 case round=>
  obtain⟨k,rfl,rfl,hk,rfl⟩:=hrel;rcases Nat.lt_or_ge k 2 with hlt | jw
  ·have dk:decide ((k:Int)<2)=true:=decide_eq_true (by omega);have Zl:=hc k hlt;go_wp2;go_roundw
   case rel=>exact⟨k+1,rfl,by go_num,by omega,trivial⟩
   case measure=>simp[intOf];omega
  obtain rfl:k=2:=by omega
  go_wp2_with (go_at_call 268;refine(CG _).mono ?_;rintro e w1 ⟨rfl,rfl⟩)
  go_loopw [6,8,27] (fun s _ i wr=>∃(k:Nat),s=.slice none 0 0/\i=.int .i64 k/\k<=2/\w=wr) (fun _ _ i _=>2-(intOf i).toNat)
  case atStart=>exact⟨0,rfl,rfl,by omega,rfl⟩
  case round=>
   obtain⟨k,rfl,rfl,hk,rfl⟩:=hrel;rcases Nat.lt_or_ge k 2 with hlt | jw
   ·have dk:decide ((k:Int)<2)=true:=decide_eq_true (by omega);have Zl:=hc k hlt;go_wp2;go_roundw
    case rel=>exact⟨k+1,rfl,by go_num,by omega,trivial⟩
    case measure=>simp[intOf];omega
   obtain rfl:k=2:=by omega
   go_wp2;go_ret;exact⟨rfl,rfl⟩
theorem jl{w w':World}{g o:Nat}{cs:List Value}(h:w.rangeAt g o cs)(hg:g<w.heap.size)(hb:Below w.drew.heap.size w.drew w'):w'.rangeAt g o cs:=fun j v hj=>by have h1:=h j v hj;exact(hb.cell (p:=⟨g,o+j,none⟩) hg).trans h1
theorem iO{w:World}{m:Nat}{G:Int->Option Value}(h:IM .i64 w m G)(k:Int){v:Value}(hv:(G k).getD (.slice none 0 0)=v):
  (Instr.lookup 264 (.map (some m)) (.int .i64 k) false).run prog w=.ok v w:=by
 rw[ed 264 133 122 underlying264 underlying133 h (.slice none 0 0) (by kernel_rfl) k false,<-hv];rfl
def XS.new(win room most subs:Int)(client:List UInt8):XS:=⟨most,subs,⟨client,win,room,0,1,[]⟩,[],[],false,false,0,0,none⟩
theorem Ds(win room most subs:Int)(client:List UInt8)(base:Nat)(g:Nat)(w:World)(hT:TzAt w)(hv:rF w base (.slice (some ⟨g,0,none⟩) 1 1) [bE client 0 1])
  (hw:1<=win/\win<=100) (hr:1<=room/\room<=1000) (hm:1<=most/\most<=1000) (hs:1<=subs/\subs<=100) (hc:client.length<=23) (yr:fe (bE client 0 1)=true):
  Calls prog 170 #[.agg #[.int .i64 win,.int .i64 room,.int .i64 most,.int .i64 subs],.slice (some ⟨g,0,none⟩) 1 1] w fun e w'=>∃S,e=.returned (.tuple #[.pointer (some ⟨S.p,0,none⟩),.int .i64 0])/\
   XB w' w'.heap.size S (XS.new win room most subs client)/\gO [] S.foot w w':=by
 have kI:∀(o:Obj),Below w.heap.size w (w.alloc o):=fun o=>(Below.refl _ w).alloc ah o;have CP:=af (fun o=>uS base (.slice (some ⟨g,0,none⟩) 1 1) [bE client 0 1] (w.alloc o) (aB hv (kI o)) (by simp));have d1:decide (subs<1)=false:=decide_eq_false (by omega);have d2:decide (100<subs)=false:=decide_eq_false (by omega);have d3:decide (subs<0)=false:=decide_eq_false (by omega);go_enter func170,ntmps170;go_wp2_with fail
 refine(CP _).mono ?_;rintro e w1 ⟨m,G,rfl,sr,Og,hb1⟩;have sr:=af sr;have hb1:=af hb1;have HB:=af kI;clear kI CP;obtain⟨a1,c1,Dt⟩:=aA (sr.rows 1);have gW:ct [bE client 0 1] 1=[bE client 0 1]:=by simp[ct,bE]
 have hk2:ct [bE client 0 1] 2=[]:=by simp[ct,bE]
 have hk3:ct [bE client 0 1] 3=[]:=by simp[ct,bE]
 have hk4:ct [bE client 0 1] 4=[]:=by simp[ct,bE]
 have hr1:=sr.rows 1;rw[Dt,gW]at hr1;rw[gW]at Dt;replace hr1:w1.ownsRow w.heap.size 136 9 (.slice a1 1 c1) 1 ([bE client 0 1].flatMap aP.cl):=aT hr1 (by simp);replace Dt:(G 1).getD (.slice none 0 0)=.slice a1 1 c1:=Dt;obtain⟨g1,rfl,Wh,uU⟩:=jB aP.cl aP.uN (l:=[bE client 0 1]) (n:=1) rfl hr1 (k:=0) rfl;have KB:=af (hr1.lt g1 rfl);have Sd:(G 2).getD (.slice none 0 0)=.slice none 0 0:=by rw[sr.no 2 hk2];rfl
 have Oh:(G 3).getD (.slice none 0 0)=.slice none 0 0:=by rw[sr.no 3 hk3];rfl
 have Sg:(G 4).getD (.slice none 0 0)=.slice none 0 0:=by rw[sr.no 4 hk4];rfl
 have uU:=af uU;have hr1:=af hr1;clear gW hk2 hk3 hk4;replace Dt:=af Dt;replace Sd:=af Sd;replace Oh:=af Oh;replace Sg:=af Sg;have pZ:=af ((ar.new w #[.int .i64 win,.int .i64 room,.int .i64 most,.int .i64 subs] 25).ag hb1.out);go_wp2_with fail
 refine aH [(1000,fun w'=>IM .i64 w' m G)] (by kernel_rfl) ⟨sr.map.ag (ai.drew),trivial⟩ fun KQ aL=>?_;try simp only[PT]
 refine tQ [0] ?_;refine gM 1 rfl (by kernel_rfl) (by kernel_rfl) rfl rfl rfl 0 rfl (by kernel_rfl) _ (fun w' hf=>iO hf 1 Dt.out) ?_;try simp only[PT]
 refine tQ [2] ?_;refine gM 3 rfl (by kernel_rfl) (by kernel_rfl) rfl rfl rfl 0 rfl (by kernel_rfl) _ (fun w' hf=>iO hf 2 Sd.out) ?_;try simp only[PT]
 refine tQ [4] ?_;refine gM 5 rfl (by kernel_rfl) (by kernel_rfl) rfl rfl rfl 0 rfl (by kernel_rfl) _ (fun w' hf=>iO hf 4 Sg.out) ?_;try simp only[PT]
 refine tQ [6,7,8] ?_;refine dQ (aL.out _ _ ?_);clear aL KQ;have s0:w1.drew.cell? ⟨w.heap.size,0,none⟩=some (.int .i64 win):=pZ.cell 0;have s1:w1.drew.cell? ⟨w.heap.size,1,none⟩=some (.int .i64 room):=pZ.cell 1;have s2:w1.drew.cell? ⟨w.heap.size,2,none⟩=some (.int .i64 most):=pZ.cell 2;have s3:w1.drew.cell? ⟨w.heap.size,3,none⟩=some (.int .i64 subs):=pZ.cell 3;go_wp2_with fail
 refine(yh most w1.drew hm.1 hm.2).mono ?_;rintro e w2 ⟨rfl,cd,hb2⟩;have cd:=af cd;have hb2:=af hb2;have Aa:=af (sr.map.ag (w':=w2) ⟨hb2.os,hb2.tape,hb2.output,hb2.size,hb2.block⟩);have HL3:=iO Aa.out 3 Oh.out;have lh:=af (pZ.drew.ag hb2.out);clear s0 s1 s2 s3;have t0:w2.cell? ⟨w.heap.size,0,none⟩=some (.int .i64 win):=lh.cell 0;have t1:w2.cell? ⟨w.heap.size,1,none⟩=some (.int .i64 room):=lh.cell 1;have t3:w2.cell? ⟨w.heap.size,3,none⟩=some (.int .i64 subs):=lh.cell 3;go_wp2_with fail
 clear HL3 t0 t1 t3;have hrow2:Hid (w2.rangeAt g1 0 (bE client 0 1).cl):=af (jl uU.out KB.2 hb2.out);have wC:=af ((HB (.cells #[.int .i64 win,.int .i64 room,.int .i64 most,.int .i64 subs] 25)).trans (hb1.mono (by simp)));have jC:=af (wC.drew.trans (hb2.mono (by have:=wC.size;exact this)));have U1:=af (hT.ag jC.drew);refine aH [(1000,fun w'=>w'.cell? ⟨w.heap.size,0,none⟩=some (.int .i64 win)),(1000,fun w'=>w'.cell? ⟨w.heap.size,1,none⟩=some (.int .i64 room)),(1000,fun w'=>w'.rangeAt g1 0 (bE client 0 1).cl),(9,fun w'=>IM .i64 w' m G)] (by kernel_rfl) ⟨lh.cell 0,lh.cell 1,hrow2.out,Aa.out,trivial⟩ fun KQ aL=>?_;try simp only[PT]
 refine tQ [0] ?_;refine lQ 1 0 ?_;refine tQ [2] ?_;refine lQ 3 1 ?_;refine tQ [4,5] ?_;refine lR 6 2 rfl rfl rfl rfl (v:=.agg ((bE client 0 1).cl:List Value).toArray) (fun w' hf=>run_loadAt_mid w' _ _ 136 ((bE client 0 1).cl:List Value) _ hf underlying136 rfl (by kernel_rfl)) ?_;simp only[PT];refine tQ [7] ?_;refine gM 8 rfl (by kernel_rfl) (by kernel_rfl) rfl rfl rfl 3 rfl (by kernel_rfl) _ (fun w' hf=>iO hf 3 Oh.out) ?_;try simp only[PT]
 refine sQ 9 fun K hK=>?_;simp only[GO];go_simp;refine(RY win room client 0 1 w2.drew U1.out hw hr (by decide) (by decide) hc yr).mono ?_;rintro e w3 ⟨L,rfl,hO,hN,Fg⟩;have hO:=af hO;have hN:=af hN;have hF3:=af (fun x hx=>(Fg.sub x hx).resolve_left (by simp));have KC:Hid (Below w2.drew.heap.size w2.drew w3):=af (Fg.wrote.ag ah (by simp));clear Fg;have mB:=af (lh.drew.ag KC.out);refine hK _ _ ⟨⟨fun _=>mB.cell 0,fun _=>mB.cell 1,fun _=>jl hrow2.out (by have:=KB.2;have:=hb2.size;simp at this;omega) KC.out,fun h=>absurd (show true=false from h) (by decide),trivial⟩,?_⟩;clear hK K;try simp only[PT]
 refine tQ [10,11,12,13,14] ?_;refine dQ (aL.out _ _ ?_);clear aL KQ;have t0:w3.cell? ⟨w.heap.size,0,none⟩=some (.int .i64 win):=mB.cell 0;have t1:w3.cell? ⟨w.heap.size,1,none⟩=some (.int .i64 room):=mB.cell 1;have t2:w3.cell? ⟨w.heap.size,2,none⟩=some (.int .i64 most):=mB.cell 2;have t3:w3.cell? ⟨w.heap.size,3,none⟩=some (.int .i64 subs):=mB.cell 3;have Fa:= @run_makeMap prog;go_wp2_with fail
 obtain⟨w4,hw4⟩:∃W,W=((w3.alloc (.map #[] 0)).alloc (.cells #[.pointer (some ⟨L.p,0,none⟩),.int .i64 win,.int .i64 room,.int .i64 most,.int .i64 subs,.pointer (some ⟨w1.heap.size+1,0,none⟩),.map (some w3.heap.size),.bool false,.bool false,.int .i64 0,.int .i64 0,.pointer none] 276)).alloc (.cells #[.slice none 0 0,.slice none 0 0] 122):=⟨_,rfl⟩;have Oi:w4.heap.size=w3.heap.size+3:=by rw[hw4];simp
 have Wi:Below w3.heap.size w3 w4:=by rw[hw4];exact JX
 have Fh:WM w4 w3.heap.size []:=by rw[hw4];exact((WM.new w3).alloc _).alloc _
 have Fi:ar w4 (w3.heap.size+1) #[.pointer (some ⟨L.p,0,none⟩),.int .i64 win,.int .i64 room,.int .i64 most,.int .i64 subs,.pointer (some ⟨w1.heap.size+1,0,none⟩),.map (some w3.heap.size),.bool false,.bool false,.int .i64 0,.int .i64 0,.pointer none] 276:=by rw[hw4];exact(ar.jb _ _ _ _ (by simp)).alloc _
 have aa4:ar w4 (w3.heap.size+2) #[.slice none 0 0,.slice none 0 0] 122:=by rw[hw4];exact ar.jb _ _ _ _ (by simp)
 rw[<-hw4];clear hw4 t0 t1 t2 t3;have q6:w4.cell? ⟨w3.heap.size+1,6,none⟩=some (.map (some w3.heap.size)):=Fi.cell 6;have agL:=x8 (P:=prog) 273 9 3 underlying273 Fh 3;have Fh:=af Fh;have Fi:=af Fi;have Wi:=af Wi;refine(concat_nil _ _ aa4).mono ?_;rintro e w5 ⟨rfl,rfl⟩;go_wp2_with fail
 go_loopw [101] (fun i wr=>i=.int .i64 0/\w4=wr) (fun _ _=>0)
 case atStart=>exact⟨rfl,rfl⟩
 case round=>
  obtain⟨rfl,rfl⟩:=hrel;go_wp2;go_loopw [120] (fun i wr=>i=.int .i64 0/\w4=wr) (fun _ _=>0)
  case atStart=>exact⟨rfl,rfl⟩
  case round=>
   obtain⟨rfl,rfl⟩:=hrel;go_wp2;go_loopw [135] (fun i wr=>i=.int .i64 0/\w4=wr) (fun _ _=>0)
   case atStart=>exact⟨rfl,rfl⟩
   case round=>
    obtain⟨rfl,rfl⟩:=hrel;go_wp2;try simp only[Exit.noGoto_ret]
    go_returns
    have pq:=wC.size;have hl2:w1.heap.size+1<w2.heap.size:=cd.box.lt;have Wj:w2.heap.size<=w3.heap.size:=KC.size;have hg:=hT.lt;have hO4:=uJ (hO.ag Wi.out) hN.out;have aa5:=(cd.ag (Below.refl _ w2).drew).ag (KC.trans (Wi.mono Wj));refine⟨⟨w3.heap.size+1,L,w1.heap.size+1,w1.heap.size,w3.heap.size,none,fun _=>0⟩,rfl,⟨Fi.out,hO4,hN.out,aa5,oB.nil,Fh.out,trivial,?_,?_,?_,?_⟩,⟨?_,?_⟩⟩
    ·intro b hb hf;have h1:=hF3 b hf;have h2:=hO.lt b hf;simp only[World.size_drew]at h1;simp only[om.own,Option.toList_none,List.mem_cons,List.not_mem_nil,or_false]at hb;omega
    ·simp only[om.own,Option.toList_none,List.nodup_cons,List.mem_cons,List.not_mem_nil,or_false,not_or,List.nodup_nil,and_true,not_false_eq_true];omega
    ·simp only[om.own,Option.toList_none,List.mem_cons,List.not_mem_nil,or_false,not_or];have hg:=hT.lt;have oh:=jC.size;refine⟨?_,?_,?_,?_⟩<;>omega
    ·exact⟨hm,hs,by simp[XS.new],by simp[XS.new];omega,by simp[XS.new];omega,by simp[XS.new]⟩
    ·exact ak.aK (jC.trans (((Below.refl _ w2).drew.trans (KC.trans (Wi.mono Wj))).mono jC.size))
    intro b hb;right;simp only[om.foot,om.own,Option.toList_none,List.cons_append,List.nil_append,List.mem_cons]at hb;have oh:=jC.size;rcases hb with hb | hb | hb | hb | hb
    ·omega
    ·omega
    ·omega
    ·omega
    have h1:=hF3 b hb;simp only[World.size_drew]at h1;omega
theorem Oj(win room most subs:Int)(client:List UInt8)(w:World)(hT:TzAt w)
  (hw:1<=win/\win<=100) (hr:1<=room/\room<=1000) (hm:1<=most/\most<=1000) (hs:1<=subs/\subs<=100) (hc:client.length<=23) (yr:fe (bE client 0 1)=true):
  Calls prog 167 #[.agg #[.int .i64 win,.int .i64 room,.int .i64 most,.int .i64 subs],.string ⟨client.toArray⟩] w fun e w'=>∃S,e=.returned (.tuple #[.pointer (some ⟨S.p,0,none⟩),.int .i64 0])/\
   XB w' w'.heap.size S (XS.new win room most subs client)/\gO [] S.foot w w':=by
 have hB:Below w.heap.size w ((w.alloc (.cells #[.int .i64 win,.int .i64 room,.int .i64 most,.int .i64 subs] 25)).alloc (.cells (bE client 0 1).vals 136)):=by exact JX
 have KE:rF ((w.alloc (.cells #[.int .i64 win,.int .i64 room,.int .i64 most,.int .i64 subs] 25)).alloc (.cells (bE client 0 1).vals 136)) w.heap.size (.slice (some ⟨w.heap.size+1,0,none⟩) 1 1) [bE client 0 1]:=
  ⟨by simp[aP.uN],.inr ⟨w.heap.size+1,1,(bE client 0 1).vals,rfl,by omega,ar.jb _ _ _ _ (by simp),by simp,by decide,by simp[aP.vals],by simp[aP.cl,aP.vals]⟩⟩
 have CO:=af (Ds win room most subs client w.heap.size (w.heap.size+1) _ (hT.ag hB) KE hw hr hm hs hc yr);replace hB:=af hB;clear KE yr;unfold bE aP.vals at*
 go_enter func167,ntmps167;go_wp2_with (go_at_call 170;refine CO.mono ?_;rintro e w1 ⟨S,rfl,hX,hS⟩)
 go_returns
 exact⟨S,rfl,hX,(gO.ag hB.out).trans hS⟩
end Go.Proofs.YtkghejaimhoboaaGreatDoor
