import Derived.Carry
import Derived.BigRegionIn
import Derived.Test.YtnieckfelfoopaaGreatDirSet
open Array renaming replicate_succ->dT,replicate_zero->ee
open Bool renaming and_eq_true->du
open Go.RowKit.Below renaming refl->aE
open Go.World renaming size_alloc->bR,putObj_heap_other->cF
open List renaming mem_cons->bS,mem_append->cv,length_cons->cD,mem_singleton->cG,nil_append->cP,size_toArray->cU,length_nil->cV,cons_append->dj,append_toArray->ef
open Nat renaming le_refl->bp,le_trans->bB
open Go.Value renaming int->O,slice->an,tuple->ao,bool->aq
open Go.IntKind renaming i64->aa
open Go.Ending renaming returned->ar
open Go.RowKit renaming Hid->aL
open Go.Proofs.Tryz (prog)
set_option maxRecDepth 100000
set_option maxHeartbeats 16000000
namespace Go.Proofs.YtnieckfelfoopaaGreat
open Lib (hid)
section
open RowKit Maps WideMaps
namespace Dir
def FN (b:List UInt8):Int:=if sF b=true then 0 else 50
theorem QX {b} (h:sF b=false):FN b=50:=by unfold FN;rw[h];rfl
end Dir
theorem Wy a n c b w (hx:Bytes w w a n b) (uD:n<=c):
  Calls prog 217 #[an a n c] w λe w'=>e=ar (O aa (Dir.FN b))/\Below w w w':=by
 have hl:=hx.len;have AA:=hx.room;have HX:=ag hx;obtain⟨S,hS⟩:=aW (Dir.cnt b);have hSn:S=n/16:=by rw[hS,Dir.cnt,hl]
 obtain⟨HS,wZ⟩:=cn hSn (λW=>zg a n c W ae);rw[<-hSn] at wZ;have ayc:S<=140737488351232:=ae;obtain⟨HGA,HGL,HGE⟩:=cp (λk (h:k<S) (hn:Dir.XN b k=false)=>Dir.QX (Dir.alP (by rw[<-hS];exact h) hn)) (λk (h:k+1=S) (hn:(Dir.rd b k).2.1=false)=>Dir.QX (Dir.aee (by rw[<-hS];exact h) hn)) (λ(h:Dir.Ah b S=true) (h2:S=0\/(Dir.rd b (S-1)).2.1=true)=>(show Dir.FN b=if n%16=0 then 0 else 50 by unfold Dir.FN;rw[hS] at h h2;rw[Dir.ahw h h2,hl];simp only[decide_eq_true_eq]));have apf:(n:Int).tmod 16=((n%16:Nat):Int):=by rw[Int.tmod_eq_emod_of_nonneg ae];omega
 have ayd:(n:Int)%16=((n%16:Nat):Int):=ae;obtain⟨M,hM⟩:=aW (n%16);rw[<-hM] at apf ayd HGE;have hMl:M<16:=ae;clear hx hS hSn hl hM;have UX:=@run_makeMap prog
 go_in
 go_wp2;go_step3;go_wp2;go_step3;go_wp2_with fail;refine(wZ.o _).cj ?_;go_wp2_with fail
 go_loopw [4,18] (λg i wr=>∃k:Nat,k<=S/\i=O aa k/\g=aq ((M:Int)==0)/\Dir.Ah b k=true/\(k=0\/k<S\/(Dir.rd b (k-1)).2.1=true)/\NameSet wr w k (Dir.seen b k)/\Below w w wr) (λ_ i _=>S-(intOf i).toNat)
 case atStart=>exact⟨0,ae,rfl,rfl,rfl,.inl rfl,NameSet.made w,(aE _ _).alloc av _⟩
 case round=>
  obtain⟨k,hk,rfl,rfl,zJ,acj,hns,hb⟩:=hrel;obtain⟨HOK,HLA,HNS,HB⟩:=cr zJ acj hns hb;clear zJ acj hns hb;by_cases aT:k<S
  .have hsc:=ag (Cf a n c k b wr (HX.on HB) (by have:=uD;omega) (by have:=HS.o;omega));go_wp2_with fail;go_call hsc as e w_ ⟨⟨a1,c1,rfl,BO,ha1,hy⟩,rfl⟩;clear ha1;have HY:=ag hy;clear hy;go_wp2_with fail;have xO:=ag (MS a1 16 c1 (Dir.uX b k) wr HY BO);unfold Eo at xO;rw[show Dir.jX (Dir.uX b k)=Dir.rd b k from rfl] at xO;have N9:(Dir.rd b k).1.nm.length<=maxLen:=bB (Dir.aq5 _) (by simp[maxLen]);obtain⟨uQ,hsn,hto⟩:=cp (show Dir.XN b k=(decide ((Dir.rd b k).2.2=0)&& !((Dir.rd b k).2.1&&(Dir.seen b k).contains (Dir.rd b k).1.nm)) from rfl) (show Dir.seen b (k+1)=if (Dir.rd b k).2.1=true then Dir.seen b k++[(Dir.rd b k).1.nm] else Dir.seen b k from rfl) (show Dir.Ah b (k+1)=(Dir.Ah b k&&Dir.XN b k) from rfl);obtain⟨hbad,agC,hus⟩:=cp (λh=>HGA.o k aT h) (λh=>HGL.o k h) (show(Dir.rd b (k+1-1)).2.1=(Dir.rd b k).2.1 by rw[Nat.add_sub_cancel]);generalize Dir.rd b k=R at*;obtain⟨⟨i,nm⟩,u,er⟩:=R;simp only at N9;go_call xO as e w2 ⟨rfl,aZ⟩;obtain⟨abf,cO⟩:=cn (((HNS.on aZ)).on ((aE w2 w2).alloc av (.cells #[O aa i,.string (aX nm)] 167))) ((HB.aA aZ).aA ((aE w2 w2).alloc av (.cells #[O aa i,.string (aX nm)] 167)));clear aZ;by_cases her:er=0
   case neg=>
    have g1:(er==0)=false:=by simpa using her
    have g2:(er !=0)=true:=by simpa using her
    have hf:=ag (hbad.o (by rw[uQ.o];simp[her]));clear her
    go_wp2_with (at_lookup;refine iL rfl _ _ rfl rfl abf nm N9 rfl ?_;intro cc)
    rw[Exit.noGoto_ret];go_ret;exact⟨by rw[hf.o];rfl,cO⟩
   subst her;cases u
   .obtain⟨asj,asl⟩:=cn (show Dir.Ah b (k+1)=true by rw[hto.o,HOK.o,uQ.o];simp) (show Dir.seen b (k+1)=Dir.seen b k from hsn.o);by_cases fO:k+1=S
    .have hf:=ag (agC.o fO rfl);have g1:((k:Int)==(S:Int)-1)=true:=by rw[beq_iff_eq];omega
     clear fO
     go_wp2_with (first
      |(at_lookup;refine iL rfl _ _ rfl rfl abf nm N9 rfl ?_;intro cc)
      |(go_at_call 156;refine(wZ.o _).cj ?_))
     rw[Exit.noGoto_ret];go_ret;exact⟨by rw[hf.o];rfl,cO⟩
    .have g1:((k:Int)==(S:Int)-1)=false:=by rw[ew];omega
     go_wp2_with (first
      |(at_lookup;refine iL rfl _ _ rfl rfl abf nm N9 rfl ?_;intro cc)
      |(go_at_call 156;refine(wZ.o _).cj ?_))
     go_roundw
     case rel=>exact⟨k+1,ae,by go_num,rfl,asj,.inr (.inl ae),by rw[asl.o];exact abf.mono ae,cO⟩
     case measure=>simp[intOf];omega
   .obtain⟨T,hT⟩:=aW ((Dir.seen b k).contains nm);cases T
    .obtain⟨hTT,asj,asl⟩:=cp hT.symm (show Dir.Ah b (k+1)=true by rw[hto.o,HOK.o,uQ.o];simp only[<-hT];rfl) (show Dir.seen b (k+1)=Dir.seen b k++[nm] from hsn.o);have aEz:(Lit.int .i64 k).wf=true:=WalkArith.wf_i64 ae;have aoL:=cO.size;clear hT
     go_wp2_with (first
      |(at_lookup;refine iL rfl _ _ rfl rfl abf nm N9 rfl ?_;intro cc;rw[hTT.o])
      |(at_mapUpdate;refine Jf rfl _ _ _ rfl rfl abf (by simp only[maxLen];omega) nm N9 (k:Int) aEz rfl rfl ?_;intro w5 zM hg5))
     go_roundw
     case rel=>exact⟨k+1,ae,by go_num,rfl,asj,.inr (.inr hus),by rw[asl.o];exact zM.o,cO.grown hg5 cO.size (λj hj=>by cases hj;exact bp _)⟩
     case measure=>simp[intOf];omega
    .obtain⟨hf,hTT⟩:=cn (hbad.o (by rw[uQ.o];simp only[<-hT];rfl)) hT.symm;clear hT
     go_wp2_with (at_lookup;refine iL rfl _ _ rfl rfl abf nm N9 rfl ?_;intro cc;rw[hTT.o])
     rw[Exit.noGoto_ret];go_ret;exact⟨by rw[hf.o];rfl,cO⟩
  .obtain rfl:k=S:=ae;have Jh:=ag (HGE.o HOK (by have h:=HLA.o;rcases h with h|h|h<;>first|exact .inl h|exact .inr h|(exfalso;omega)));by_cases hM0:M=0
   .have g1:((M:Int)==0)=true:=by rw[hM0];rfl
    have hf:=ag (Jh.trans (ev hM0));clear hM0;go_wp2;rw[Exit.noGoto_ret];go_ret;exact⟨by rw[hf.o];rfl,HB⟩
   .have g1:((M:Int)==0)=false:=by rw[ew];omega
    have hf:=ag (Jh.trans (eo hM0));clear hM0;go_wp2;rw[Exit.noGoto_ret];go_ret;exact⟨by rw[hf.o];rfl,HB⟩
namespace Dir
def abg b k:=∀j,j<k->QD (uX b j)=false
def KQ b r:=abg b r/\r<=cnt b/\(r<cnt b->QD (uX b r)=true)
end Dir
theorem Zy a n c b w (hx:Bytes w w a n b) (uD:n<=c):
  Calls prog 102 #[an a n c] w λe w'=>(∃r:Nat,e=ar (O aa r)/\Dir.KQ b r)/\w=w':=by
 have hl:=hx.len;have AA:=hx.room;have HX:=ag hx;obtain⟨S,hS⟩:=aW (Dir.cnt b);have hSn:S=n/16:=by rw[hS,Dir.cnt,hl]
 obtain⟨HS,HC,wZ⟩:=cp hSn hS (λW=>zg a n c W ae);rw[<-hSn] at wZ;have ayc:S<=140737488351232:=ae;clear hx hS hSn hl
 go_in
 go_wp2_with fail;refine(wZ.o _).cj ?_;go_wp2_with fail
 go_loop [6] (λi=>∃k:Nat,k<=S/\i=O aa k/\Dir.abg b k) (λi=>S-(intOf i).toNat)
 case atStart=>exact⟨0,ae,rfl,λj hj=>ae⟩
 case round=>
  obtain⟨k,hk,rfl,hz⟩:=hrel;have HZ:=ag hz;clear hz;by_cases aT:k<S
  .have hsc:=ag (Cf a n c k b w HX uD (by have:=HS.o;omega));go_wp2_with fail;go_call hsc as e w_ ⟨⟨a1,c1,rfl,BO,ha1,hy⟩,rfl⟩;have HE:=ag (uw a1 16 c1 _ w hy);clear ha1 hy
   cases hb:Dir.QD (Dir.uX b k)
   .rw[hb] at HE;have hnx:=ag (show Dir.abg b (k+1) from λj hj=>by
     by_cases h:j=k
     .rw[h];exact hb
     .exact HZ.o j ae)
    clear hb;go_wp2_with fail;refine HE.cj ?_;go_wp2
    go_round
    case rel=>exact⟨k+1,ae,by go_num,hnx⟩
    case measure=>simp[intOf];omega
   .rw[hb] at HE;have Jh:=ag (show Dir.KQ b k from⟨HZ,by have:=HC.o;omega,λ_=>hb⟩);clear hb;go_wp2_with fail;refine HE.cj ?_;go_wp2;go_ret;exact⟨⟨k,rfl,Jh⟩,rfl⟩
  .obtain rfl:k=S:=ae;have Jh:=ag (show Dir.KQ b k from⟨HZ,by have:=HC.o;omega,λh=>by have:=HC.o;omega⟩);go_wp2_with fail;refine(wZ.o _).cj ?_;go_wp2;go_ret;exact⟨⟨k,rfl,Jh⟩,rfl⟩
end
section
open RowKit
attribute [local go_sem] Oper.semAt_some
namespace Dir
def jo b
 |0=>[]
 |k+1=>if (rd b k).2.1=true then jo b k++[(k,(rd b k).1)] else jo b k
def OJ b:=jo b (cnt b)
theorem abh {b k m} (h:k<=m):jo b k<+:jo b m:=by induction m<;>grind[Dir.jo]
end Dir
def Lm (x:Nat×yZ):Array Value:=#[O aa x.1,.agg #[O aa x.2.i,.string (aX x.2.nm)]]
theorem Jp {c W W'} (h:Below W.heap.size W W'):W.grownBy W' (some c):=⟨h.os,h.tape,h.output,h.size,λk hk _=>h.block k hk⟩
theorem Qg a n c b C n0 w (uD:n<=c) (hx:Bytes w n0 a n b) (hC:aF w C 23 #[an a n c]) (Gx:n0<=C):
  Iter prog 211 #[C] Lm (Dir.OJ b) C n0 w:=by
 intro lp J Jx W hW hJ hJx hY h0;have hxW:=hx.below (B:=n0) (hW.mono (Nat.le_of_lt (Nat.lt_of_le_of_lt Gx hC.lt)));have hCW:=hC.ah hW;have AA:=hx.room;have hl:=hx.len;obtain⟨S,hS⟩:=aW (Dir.cnt b);have hSn:S=n/16:=by rw[hS,Dir.cnt,hl]
 obtain⟨HS,wZ⟩:=cn hSn (λW=>zg a n c W ae);rw[<-hSn] at wZ;have ayc:S<=140737488351232:=ae;obtain⟨HE,HY,HJ⟩:=cp (show Dir.OJ b=Dir.jo b S by rw[hS];rfl) hY hJ;obtain⟨HX,HC,H0⟩:=cp hxW hCW h0;have cc:=hCW.aj (i:=0) rfl;have hsc:=ag (callsIn_wide (n:=7)|>.2 (wZ.o W));clear hx hC hW hl hSn hS hY hJ hxW hCW h0 wZ;refine callsIn_of_wp Tryz.func211 rfl trivial ?_ rfl;simp only[Tryz.ntmps211,cU,cD,cV,Nat.reduceAdd,Nat.reduceSub,dT,ee,List.push_toArray,ef,cP,dj]
 gi_wp2_with fail
 refine⟨trivial,?_⟩;refine hsc.mono ?_;rintro e w_ ⟨rfl,rfl⟩
 gi_wp2
 gi_loopw [9] (λi wr=>∃k:Nat,k<=S/\i=O aa k/\Bytes wr n0 a n b/\aF wr C 23 #[an a n c]/\J (Dir.jo b k) wr) (λi _=>S-(intOf i).toNat)
 case atStart=>exact⟨0,ae,rfl,HX,HC,H0⟩
 case round=>
  obtain⟨k,hk,rfl,hx,hc,hj⟩:=hrel;have ayf:n0<=wr.heap.size:=Nat.le_of_lt (Nat.lt_of_le_of_lt Gx hc.lt);have cc:=hc.aj (i:=0) rfl;obtain⟨HX,HC,UT⟩:=cp hx hc hj;clear hx hc hj;by_cases aT:k<S
  .obtain⟨hst,Xc,iJ⟩:=cp (callsIn_wide (n:=7)|>.2 (Cf a n c k b wr (HX.mono ayf) uD (by have:=HS.o;omega))) (show Dir.jo b (k+1)=if (Dir.rd b k).2.1=true then Dir.jo b k++[(k,(Dir.rd b k).1)] else Dir.jo b k from rfl) (show Dir.jo b (k+1)<+:Dir.OJ b by rw[HE.o];exact Dir.abh ae)
   gi_wp2_with fail
   refine⟨trivial,?_⟩;refine hst.mono ?_;rintro e w_ ⟨⟨a1,c1,rfl,BO,ha1,hy⟩,rfl⟩;clear ha1;have xO:=ag (callsIn_wide (n:=7)|>.2 (MS a1 16 c1 (Dir.uX b k) wr hy BO));unfold Eo at xO;rw[show Dir.jX (Dir.uX b k)=Dir.rd b k from rfl] at xO;generalize Dir.rd b k=R at*;obtain⟨⟨i,nm⟩,u,er⟩:=R;clear hy
   gi_wp2_with fail
   refine⟨trivial,?_⟩;refine xO.mono ?_;rintro e w2 ⟨rfl,aZ⟩;have bJ:=aZ.trans (((aE w2 w2).alloc av (.cells #[O aa i,.string (aX nm)] 167)).mono aZ.size);obtain⟨IQ,EM,uZ⟩:=cp (HX.below (bJ.mono ayf)) (HC.ah bJ) (HJ.o _ _ _ UT (Jp bJ));clear aZ bJ;cases u
   .have YD:=ag (show Dir.jo b (k+1)=Dir.jo b k from Xc.o)
    gi_wp2
    all_goals (refine⟨λ_ h=>(by cases h),?_⟩;gi_wp2)
    go_roundw
    case rel=>exact⟨k+1,ae,by go_num,IQ,EM,by rw[YD.o];exact uZ.o⟩
    case measure=>simp[intOf];omega
   .have YD:=ag (show Dir.jo b (k+1)=Dir.jo b k++[(k,⟨i,nm⟩)] from Xc.o);obtain⟨fn,tmps,assign,body,hy,hR⟩:=HY.o (Dir.jo b k) (k,⟨i,nm⟩) _ uZ.o (by rw[<-YD.o];exact iJ.o);unfold Lm at hy
    gi_wp2
    refine hR.mono ?_;rintro e W3 (⟨rfl,hJ3,bJ,xM⟩|⟨rfl,af0⟩)
    .obtain⟨HX4,N8,HJ4⟩:=cp (IQ.below bJ) (xM.trans EM) hJ3;clear hJ3 bJ xM
     gi_wp2
     go_roundw
     case rel=>exact⟨k+1,ae,by go_num,HX4,N8,by rw[YD.o];exact HJ4.o⟩
     case measure=>simp[intOf];omega
    .gi_wp2
     refine bodyPost_ret (results_none rfl _ _ _) rfl ?_;exact⟨⟨_,rfl⟩,.inr ⟨_,by rw[<-YD.o];exact iJ.o,af0⟩⟩
  .obtain rfl:k=S:=ae
   gi_wp2
   go_end0;exact⟨⟨_,rfl⟩,.inl (by rw[HE.o];exact UT.o)⟩
end
section
open RowKit
theorem Ll {α P g ps assign body Q a w} {gf:Nat} {lb encs xs c n0 w0}
  (hg:a.eval g= .func (.func gf) #[] lb) (eg:∀args w,(callFunc gf args).run P w= .ok (.enter gf args) w) (wK:Iter P gf lb encs xs c n0 w0) (gu:Below w0 w0 w) (Gx:n0<=w) (hc:c<w)
  (hps:∀x,(encs x).size=ps.size) I Ix (hI:∀pre,dF c w (I pre)) (Xo:∀k pre,dF c w (Ix k pre)) (h0:I [] w) (M:List α->α->Act->World->Prop) (hM:∀pre x a1,dF c w (M pre x a1))
  (xy:∀l pre x W K,I pre W->(pre++[x])<+:xs->(∀a1 W',KeepsOthers W W'->Below n0 W W'->W'.heap[c]?=W.heap[c]?->W<=W'.heap.size->M pre x a1 W'->K a1 W')->
   assign.wpIn (Fence.wide.inRound l) 7 P (Exit.then K (λ_ _ _=>False)) {tmps:=(ps.zip (encs x)).foldl (λt (p,v)=>t.setIfInBounds p v) a.tmps,defers:=[]} W)
  (LW:∀l pre x a1 W,M pre x a1 W->(pre++[x])<+:xs->body.wpIn (Fence.wide.inRound l) 7 P (ag7 n0 c I Ix (pre++[x]) W) a1 W)
  (LZ:∀D W,w.heap.size<=D->I xs W->W.heap[D]?=some (.deferred (some []))->Q .normal {a with defers:={target:= .collected D,args:=#[]}::a.defers} W)
  (Xp:∀D k pre W,w.heap.size<=D->pre<+:xs->Ix k pre W->W.heap[D]?=some (.deferred (some []))->k.wpIn Fence.wide 9 P Q {a with defers:={target:= .collected D,args:=#[]}::a.defers} W):
  (Code.rangeFunc g ps assign body).wpIn Fence.wide 9 P Q a w:=by
 refine wpIn_rangeFunc λfn hfn=>?_;obtain⟨D,hD⟩:=Iu w.heap.size;obtain⟨R,hR⟩:∃R:LoopState->Option Code->Loop,R=λst pe=>{state:=st,pending:=pe,fn,tmps:=a.tmps,params:=ps,assign,body,defers:=D}:=⟨_,rfl⟩
 have ag8:∀st pe st' pe',{R st pe with state:=st',pending:=pe'}=R st' pe':=by intros;rw[hR]
 obtain⟨V,hV⟩:=Iu ((w.alloc (.deferred (some []))).alloc (.loop (R .ready none)));have vl:V.heap[D+1]?=some (.loop (R .ready none)):=by have h:=World.alloc_heap_new (w.alloc (.deferred (some []))) (.loop (R .ready none));rw[bR,hD,hV] at h;exact h
 have vd:V.heap[D]?=some (.deferred (some [])):=by rw[<-hV,Below.heap_alloc _ _ _ (by rw[bR];omega),<-hD];exact World.alloc_heap_new w _
 have hIV:I [] V:=by rw[<-hV];exact(hI []).alloc _ ((hI []).alloc _ h0)
 have hbV:Below w0 w0 V:=by rw[<-hV];exact(gu.alloc gu.size _).alloc (by rw[bR];have:=gu.size;omega) _
 have uo:∀(A:World) (r:Loop) (jump:Option Code),A.heap[D+1]?=some (.loop r)->(A.putObj (D+1) (.loop {r with state:=if jump.isNone then .ready else .done,pending:=jump})).heap[D+1]?=some (.loop {r with state:=if jump.isNone then .ready else .done,pending:=jump}):=
  λA r jump h=>World.putObj_heap_same (oO h)
 refine⟨D+1,[{target:= .collected D,args:=#[]}],V,{target:= .fn (.func gf) lb,args:=#[.func (.yield (D+1)) #[] #[]]},V,gf,#[.func (.yield (D+1)) #[] #[]]++lb,V,?_,?_,λ_ _=>trivial,?_,Ed,?_⟩
 .have h:=run_enterLoop_outer (P:=P) (w:=w) fn a.tmps ps assign body;rw[hD] at h;rw[<-hV,hR];exact h
 .simp only[resolve,hg];simp[go_sem]
 .simp[invoke,go_sem,eg]
 .refine(wK (D+1) (λpre W=>I pre W/\W.heap[D+1]?=some (.loop (R .ready none))/\W.heap[D]?=some (.deferred (some [])))
   (λpre W=>∃k,Ix k pre W/\W.heap[D+1]?=some (.loop (R .done (some k)))/\W.heap[D]?=some (.deferred (some []))) V hbV ?_ ?_ ?_ ⟨hIV,vl,vd⟩).mono ?_
  .rintro pre A B ⟨h1,h2,h3⟩ EX;exact⟨(hI pre).one A B h1 EX,Hq h2 EX ae,Hq h3 EX ae⟩
  .rintro pre A B ⟨k,h1,h2,h3⟩ EX;exact⟨k,(Xo k pre).one A B h1 EX,Hq h2 EX ae,Hq h3 EX ae⟩
  .rintro pre x A ⟨hi,hl,hd⟩ iJ;refine⟨fn,_,assign,body,by have h:=run_yield (P:=P) (args:=encs x) hl (by rw[hR];exact hps x);rw[hR] at h;exact h,roundIn_of_wpIn hfn (xy _ pre x A _ hi iJ ?_)⟩;intro a1 A1 ko ab1 ac1 _ am;have al1:=ko.same _ _ hl rfl;have ad1:=ko.same _ _ hd rfl;refine⟨_,run_beginRound al1 (by rw[hR]),?_⟩;obtain⟨A2,Bg⟩:∃A2,A1.putObj (D+1) (.loop {R .ready none with state:= .busy})=A2:=⟨_,rfl⟩
   have al:A2.heap[D+1]?=some (.loop {R .ready none with state:= .busy}):=by rw[<-Bg];exact World.putObj_heap_same (oO al1)
   have ad:A2.heap[D]?=some (.deferred (some [])):=by rw[<-Bg];exact(cF ae).trans ad1
   have ac:A2.heap[c]?=A.heap[c]?:=by rw[<-Bg];exact(cF ae).trans ac1
   have ab:Below n0 A A2:=by rw[<-Bg];exact ab1.trans (gW _ ae)
   have ai:M pre x a1 A2:=by rw[<-Bg];exact(hM pre x a1).turn _ ae am al1 rfl
   rw[Bg];refine wpIn_mono (LW _ pre x a1 A2 ai iJ) ?_;intro e a3 B hp
   cases e with
   |normal=>
    obtain⟨h1,h2,h3,h4⟩:=hp;have bl:=h1.same _ _ al rfl;have bd:=h1.same _ _ ad rfl;refine⟨_,_,run_endRound none bl,.inl ⟨rfl,⟨(hI _).turn _ ae h4 bl rfl,?_,(cF ae).trans bd⟩,(ab.trans h2).trans (gW _ ae),?_⟩⟩
    .rw[uo B _ none bl,hR];rfl
    .rw[cF ae,h3,ac]
   |ret=>
    obtain⟨h1,h4⟩:=hp;have bl:=h1.same _ _ al rfl;have bd:=h1.same _ _ ad rfl;refine⟨_,_,run_endRound (some .ret) bl,.inr ⟨rfl,.ret,(Xo _ _).turn _ ae h4 bl rfl,?_,(cF ae).trans bd⟩⟩;rw[uo B _ (some .ret) bl,hR];rfl
   |exit id=>
    obtain⟨h1,h4⟩:=hp;have bl:=h1.same _ _ al rfl;have bd:=h1.same _ _ ad rfl;refine⟨_,_,run_endRound (some (.exit id)) bl,.inr ⟨rfl,.exit id,(Xo _ _).turn _ ae h4 bl rfl,?_,(cF ae).trans bd⟩⟩;rw[uo B _ (some (.exit id)) bl,hR];rfl
   |goto t=>
    obtain⟨h1,h4⟩:=hp;have bl:=h1.same _ _ al rfl;have bd:=h1.same _ _ ad rfl;refine⟨_,_,run_endRound (some (.goto t)) bl,.inr ⟨rfl,.goto t,(Xo _ _).turn _ ae h4 bl rfl,?_,(cF ae).trans bd⟩⟩;rw[uo B _ (some (.goto t)) bl,hR];rfl
   |panic ch=>exact hp.elim
   |outgrown=>exact hp.elim
  .rintro e B ⟨⟨v,rfl⟩,h|⟨pre,iJ,k,h1,bl,bd⟩⟩
   .obtain⟨h1,bl,bd⟩:=h;refine⟨none,_,by have h:=run_endLoop (P:=P) bl (by rw[hR];simp);rw[hR] at h;exact h,?_⟩;exact LZ D _ ae ((hI _).turn _ ae h1 bl rfl) ((cF ae).trans bd)
   .refine⟨some k,_,by have h:=run_endLoop (P:=P) bl (by rw[hR];simp);rw[hR] at h;exact h,?_⟩;exact Xp D k pre _ ae iJ ((Xo k pre).turn _ ae h1 bl rfl) ((cF ae).trans bd)
end
section
open RowKit Shelf
attribute [local go_sem] Oper.semAt_some
namespace Dir
def kR (nm:List UInt8):List (Nat×yZ)->Int×Int
 |[]=>(-1,0)
 |x::t=>if x.2.nm=nm then(x.1,x.2.i) else kR nm t
def jk b nm:=kR nm (OJ b)
theorem Ik {nm l} (h:∀y∈l,y.2.nm≠nm):kR nm l=(-1,0):=by
 induction l with
 |nil=>rfl
 |cons x t ih=>
  rw[kR,eo (h x au),ih (λy hy=>h y (by simp[hy]))]
theorem YE {nm pre l x} (hp:(pre++[x])<+:l) (h:∀y∈pre,y.2.nm≠nm) (hx:x.2.nm=nm):kR nm l=(x.1,x.2.i):=by
 obtain⟨t,rfl⟩:=hp
 induction pre with
 |nil=>simp[kR,hx]
 |cons y r ih=>
  rw[dj,dj,kR,eo (h y au)];grind
end Dir
def aiE (H:Nat) (w:World) (nm:List UInt8) (pre:List (Nat×yZ)) (W:World):=
 aF W H 9 #[.string (aX nm)]/\aF W (H+1) 3 #[O aa 0]/\aF W (H+2) 3 #[O aa 0]/\Below H w W/\H+4<=W/\(∀y∈pre,y.2.nm≠nm)
def aoK (H:Nat) (w:World) (r:Int×Int) (k:Code) W:=
 aF W (H+1) 3 #[O aa r.1]/\aF W (H+2) 3 #[O aa r.2]/\Below H w W/\k= .ret
theorem Il H w (hw:H<=w.heap.size) nm pre:dF (H+3) (H+4) (aiE H w nm pre):=
 (aF.jB ae).and ((aF.jB ae).and ((aF.jB ae).and ((mX ae ae hw).and (G5.and (dF.pure _)))))
theorem YF H w (hw:H<=w.heap.size) r k:dF (H+3) (H+4) (aoK H w r k):=
 (aF.jB ae).and ((aF.jB ae).and ((mX ae ae hw).and (dF.pure _)))
theorem agj a n c w:
  Calls prog 150 #[an a n c] w λe w'=>e=ar (.func (.func 211) #[] #[.pointer (aw w 0)])/\w.alloc (.cells #[an a n c] 23)=w':=by
 go_in
 go_wp2;go_ret;exact⟨rfl,rfl⟩
def acA (a:Option Addr) (n c H:Nat) (nm:List UInt8) (x:Nat×yZ) (g:Nat):Act:=
 {tmps:=#[an a n c,.string (aX nm),undef,H,.pointer (some ⟨H+1,0,none⟩),.pointer (some ⟨H+2,0,none⟩),O aa x.1,g,an a n c,.func (.func 211) #[] #[.pointer (some ⟨H+3,0,none⟩)],O aa x.1,.agg #[O aa x.2.i,.string (aX x.2.nm)],undef,undef,undef,undef,undef,undef,undef],defers:=[]}
theorem BD a n c b nm w (hx:Bytes w w a n b) (uD:n<=c):
  Calls prog 93 #[an a n c,.string (aX nm)] w λe w'=>e=ar (ao #[O aa (Dir.jk b nm).1,O aa (Dir.jk b nm).2])/\Below w w w':=by
 refine callsIn_wide (n:=9)|>.1 ?_;refine callsIn_of_wp_marks Tryz.func93 rfl trivial ?_ rfl;refine wpIn_wide.2 ?_;simp only[Tryz.ntmps93,cU,cD,cV,Nat.reduceAdd,Nat.reduceSub,dT,ee,List.push_toArray,ef,cP,dj];go_wp2_with fail;refine(agj a n c _).mono ?_;rintro e w' ⟨rfl,rfl⟩;go_wp2;rw[show w.heap.size+1+1+1=w.heap.size+3 from rfl,show w.heap.size+1+1=w.heap.size+2 from rfl];have b3:=(((aF.new w 9 #[.string (aX nm)]).alloc (.cells #[O aa 0] 3)).alloc (.cells #[O aa 0] 3)).alloc (.cells #[an a n c] 23);have b4:=((aF.new (w.alloc (.cells #[.string (aX nm)] 9)) 3 #[O aa 0]).alloc (.cells #[O aa 0] 3)).alloc (.cells #[an a n c] 23);have b5:=(aF.new ((w.alloc (.cells #[.string (aX nm)] 9)).alloc (.cells #[O aa 0] 3)) 3 #[O aa 0]).alloc (.cells #[an a n c] 23);have b6:=aF.new (((w.alloc (.cells #[.string (aX nm)] 9)).alloc (.cells #[O aa 0] 3)).alloc (.cells #[O aa 0] 3)) 23 #[an a n c];have gu:Below w w ((((w.alloc (.cells #[.string (aX nm)] 9)).alloc (.cells #[O aa 0] 3)).alloc (.cells #[O aa 0] 3)).alloc (.cells #[an a n c] 23)):=((((aE _ w).alloc av _).alloc au _).alloc (by simp;omega) _).alloc (by simp;omega) _;have iG:((((w.alloc (.cells #[.string (aX nm)] 9)).alloc (.cells #[O aa 0] 3)).alloc (.cells #[O aa 0] 3)).alloc (.cells #[an a n c] 23)).heap.size=w.heap.size+4:=au;simp only[bR] at b4 b5 b6;rw[show w.heap.size+1+1=w.heap.size+2 from rfl] at b5;rw[show w.heap.size+1+1+1=w.heap.size+3 from rfl] at b6;generalize (((w.alloc (.cells #[.string (aX nm)] 9)).alloc (.cells #[O aa 0] 3)).alloc (.cells #[O aa 0] 3)).alloc (.cells #[an a n c] 23)=W0 at*;have wK:=Qg a n c b (w.heap.size+3) w W0 uD (hx.below gu) b6 ae;have HNE:=ag (λpre x (h:(pre++[x])<+:Dir.OJ b) (h1:∀y∈pre,y.2.nm≠nm) (h2:x.2.nm=nm)=>(show Dir.jk b nm=_ from Dir.YE h h1 h2));have HNO:=ag (λ(h1:∀y∈Dir.OJ b,y.2.nm≠nm)=>(show Dir.jk b nm=_ from Dir.Ik h1));refine wpIn_wide.1 (Ll (gf:=211) (lb:=#[.pointer (some ⟨w.heap.size+3,0,none⟩)]) (encs:=Lm) (xs:=Dir.OJ b) (c:=w.heap.size+3) (n0:=w.heap.size) (w0:=W0) rfl (enters_of Tryz.func211 az rfl) wK (aE _ _) ae ae (λ_=>rfl)
  (aiE w w nm) (λk _=>aoK w w (Dir.jk b nm) k) (λpre=>by rw[iG];exact Il _ w av nm pre) (λk pre=>by rw[iG];exact YF _ w av _ k)
  ⟨b3,b4,b5,gu,ae,au⟩
  (λpre x a1 W=>∃g,a1=acA a n c w nm x g/\w.heap.size+4<=g/\aF W g 167 #[O aa x.2.i,.string (aX x.2.nm)]/\aiE w w nm pre W) ?keeps ?assign ?body ?done ?stop)
 case keeps=>
  intro pre x a1;rw[iG];refine dF.ex λg=>?_;by_cases hg:w.heap.size+4<=g
  .exact(dF.pure _).and ((dF.pure _).and ((aF.jB ae).and (Il _ w av nm pre)))
  .intro W W' r h;exact absurd h.2.1 hg
 case assign=>
  intro lp pre x W K hi iJ hK;unfold Lm;obtain⟨i3,i4,i5,i6,i7,i8⟩:=id hi
  gi_wp2
  refine hK _ _ (KeepsOthers.alloc _ _) ((aE w W).alloc ae _) (Below.heap_alloc _ _ _ ae) au ⟨W.heap.size,rfl,i7,aF.new _ _ _,i3.alloc _,i4.alloc _,i5.alloc _,i6.alloc ae _,by simp;omega,i8⟩
 case body=>
  rintro lp pre x a1 W ⟨g,rfl,hg,bg,b3,b4,b5,jW,hsW,hn⟩ iJ;unfold acA;obtain⟨k,i,xm⟩:=x;have e0:=bg.aj (i:=0) rfl;have e1:=bg.aj (i:=1) rfl;have c3:=b3.aj (i:=0) rfl;have c4:=b4.aj (i:=0) rfl;have c5:=b5.aj (i:=0) rfl;have f4:=b4.frozen 0;have f5:=b5.frozen 0;obtain⟨HB,HN,B3,B4,B5⟩:=ct jW hn b3 b4 b5;by_cases he:xm=nm
  .have vk:=ag (HNE.o pre _ iJ hn he);subst he;have g1:(xm==xm)=true:=au;clear hn jW b3 b4 b5 bg
   gi_wp2
   gi_region
   all_goals
    gi_wp2
    have ko:=(gG W (w.heap.size+1) 0 (O aa k)).trans (gG _ (w.heap.size+2) 0 (O aa i));refine⟨⟨ko.size,ko.same⟩,?_,?_,((HB.setCell (p:=⟨w.heap.size+1,0,none⟩) au _).setCell (p:=⟨w.heap.size+2,0,none⟩) au _).drew,rfl⟩
    .rw[vk.o];exact((B4.set 0 _).far au _).drew
    .rw[vk.o];exact((B5.far au _).set 0 _).drew
  .have g1:(xm==nm)=false:=by simpa using he
   have YK:=ag (show∀y∈pre++[(k,(⟨i,xm⟩:yZ))],y.2.nm≠nm from by
    intro y hy;rw[cv] at hy;rcases hy with h|h
    .exact hn y h
    .rw[cG.1 h];exact he)
   clear hn jW b3 b4 b5 bg he
   gi_wp2
   exact⟨KeepsOthers.refl _,aE _ _,rfl,B3,B4,B5,HB,hsW,YK⟩
 case done=>
  rintro D W hD ⟨b3,b4,b5,jW,hsW,hn⟩ hK;obtain⟨vk,HB,B4,B5⟩:=cr (HNO.o hn) jW b4 b5;have c4:=b4.aj (i:=0) rfl;have c5:=b5.aj (i:=0) rfl;have f4:=b4.frozen 0;have f5:=b5.frozen 0;have hK2:∀u v,((W.setCell ⟨w.heap.size+1,0,none⟩ u).setCell ⟨w.heap.size+2,0,none⟩ v).heap[D]?=some (.deferred (some [])):=λu v=>by rw[heap_setCell_other _ _ _ _ (by simp;omega),heap_setCell_other _ _ _ _ (by simp;omega)];exact hK
  clear hn jW b3 b4 b5;go_wp2;refine⟨au,.inl ⟨_,_,rfl,run_takeDeferred (hK2 _ _),?_⟩⟩;have z4:=((aF.jB (c:=w.heap.size) (B:=0) ae) _ _ D ((B4.set 0 (O aa (-1))).far (p:=⟨w.heap.size+2,0,none⟩) au (O aa 0)) (grownBy_putObj' _ D (.deferred none)) (.inr ⟨ae,_,hK2 _ _,rfl⟩):aF _ _ _ _).aj (i:=0) rfl;have z5:=((aF.jB (c:=w.heap.size) (B:=0) ae) _ _ D ((B5.far (p:=⟨w.heap.size+1,0,none⟩) au (O aa (-1))).set 0 (O aa 0)) (grownBy_putObj' _ D (.deferred none)) (.inr ⟨ae,_,hK2 _ _,rfl⟩):aF _ _ _ _).aj (i:=0) rfl;have iM:=((HB.setCell (p:=⟨w.heap.size+1,0,none⟩) au (O aa (-1))).setCell (p:=⟨w.heap.size+2,0,none⟩) au (O aa 0)).trans (gW (l:=D) (.deferred none) ae);refine⟨_,by simp[results,Tryz.results93,go_sem,z4,z5];rfl,by rw[vk.o],iM⟩
 case stop=>rintro D k pre W hD _ ⟨b4,b5,jW,rfl⟩ hK;have HB:=ag jW;have c4:=b4.aj (i:=0) rfl;have c5:=b5.aj (i:=0) rfl;obtain⟨B4,B5⟩:=cn b4 b5;clear jW b4 b5;refine wpIn_wide.2 ?_;go_wp2;refine⟨au,.inl ⟨_,_,rfl,run_takeDeferred hK,?_⟩⟩;have z4:=((aF.jB (c:=w.heap.size) (B:=0) ae) _ _ D B4 (grownBy_putObj' _ D (.deferred none)) (.inr ⟨ae,_,hK,rfl⟩):aF _ _ _ _).aj (i:=0) rfl;have z5:=((aF.jB (c:=w.heap.size) (B:=0) ae) _ _ D B5 (grownBy_putObj' _ D (.deferred none)) (.inr ⟨ae,_,hK,rfl⟩):aF _ _ _ _).aj (i:=0) rfl;refine⟨_,by simp[results,Tryz.results93,go_sem,z4,z5],rfl,HB.trans (gW _ ae)⟩
end
section
open RowKit
namespace Dir
theorem abj {nm l} (h:0<=(kR nm l).1):∃x∈l,kR nm l=((x.1:Int),x.2.i)/\x.2.nm=nm:=by
 induction l with
 |nil=>simp[kR] at h
 |cons x t ih=>
  rw[kR] at h⊢
  grind
theorem aeQ {b nm} (h:¬0<=(jk b nm).1):(jk b nm).1= -1:=by
 unfold jk at h⊢;have:∀l:List (Nat×yZ),¬0<=(kR nm l).1->(kR nm l).1= -1:=by
  intro l
  induction l with
  |nil=>intro _;rfl
  |cons x t ih=>
   intro h;rw[kR] at h⊢
   grind
 exact this _ h
def akv b e:=if sF b=true then(if iD e=0 then(if 0<=(jk b e.nm).1 then 61 else 0) else iD e) else 50
end Dir
namespace Dir
theorem aiF {b} (h:sF b=true):b.length=16*cnt b:=by grind[Dir.sF,Dir.cnt]
end Dir
end
section
namespace Dir
def used b k:=(rd b k).2.1=true
def ND b k:=(rd b k).1.nm
theorem mem_seen {b k nm}:nm∈seen b k↔∃j,j<k/\used b j/\ND b j=nm:=by
 induction k with
 |zero=>simp[seen]
 |succ k ih=>
  rw[seen];by_cases h:(rd b k).2.1=true
  .rw[ev h,cv,ih,cG];constructor
   .rintro(⟨j,h1,h2,h3⟩|h1)
    .exact⟨j,ae,h2,h3⟩
    .exact⟨k,ae,h,h1.symm⟩
   .rintro⟨j,h1,h2,h3⟩;by_cases hj:j=k
    .subst hj;exact .inr h3.symm
    grind
  .rw[eo h,ih];constructor
   .grind
   .rintro⟨j,h1,h2,h3⟩;by_cases hj:j=k
    .subst hj;exact absurd h2 h
    .exact⟨j,ae,h2,h3⟩
theorem NF {b k}:XN b k=true↔(rd b k).2.2=0/\(used b k->∀j,j<k->used b j->ND b j≠ND b k):=by
 unfold XN;rw[du,decide_eq_true_iff];refine and_congr_right λ_=>?_
 cases h:(rd b k).2.1
 .constructor
  .intro _ hu;unfold used at hu;rw[h] at hu;cases hu
  .intro _;rfl
 .rw[Bool.true_and,Bool.not_eq_true'];have hm:=mem_seen (b:=b) (k:=k) (nm:=ND b k);constructor
  .intro hc _ j hj hu he;have:=hm.2 ⟨j,hj,hu,he⟩;have h2:(seen b k).contains (rd b k).1.nm=true:=by rw[List.contains_iff_mem];exact this
   rw[hc] at h2;cases h2
  .intro FV
   cases hc:(seen b k).contains (rd b k).1.nm
   .rfl
   .rw[List.contains_iff_mem] at hc;obtain⟨j,h1,h2,h3⟩:=hm.1 hc;exact absurd h3 (FV h j h1 h2)
theorem YG {b m}:Ah b m=true↔∀k,k<m->XN b k=true:=by induction m<;>grind[Dir.Ah]
structure Good b:Prop where
 len:b.length=16*cnt b
 err:∀k,k<cnt b->(rd b k).2.2=0
 apart:∀j k,j<k->k<cnt b->used b j->used b k->ND b j≠ND b k
 last:cnt b=0\/used b (cnt b-1)
theorem jm {b}:sF b=true↔Good b:=by
 constructor
 .intro h;have hl:=aiF h;rw[sF,du,du,YG] at h;obtain⟨⟨_,h2⟩,h3⟩:=h;refine⟨hl,λk hk=>(NF.1 (h2 k hk)).1,λj k hj hk hu hv=>(NF.1 (h2 k hk)).2 hv j hj hu,?_⟩;unfold MV at h3;rw[Bool.or_eq_true,decide_eq_true_iff] at h3;exact h3
 grind[Dir.sF,Dir.MV,Dir.used,Dir.YG,Dir.NF,Dir.Good.len,Dir.Good.err,Dir.Good.apart,Dir.Good.last]
theorem CJ {b m x}:x∈jo b m↔x.1<m/\used b x.1/\x.2=(rd b x.1).1:=by induction m<;>grind[Dir.jo,Dir.used]
theorem amO {b nm} (h:0<=(jk b nm).1):∃k,k<cnt b/\used b k/\ND b k=nm/\jk b nm=((k:Int),(rd b k).1.i):=by obtain⟨x,hx,h1,h2⟩:=abj (l:=OJ b) h;obtain⟨q1,q2,q3⟩:=CJ.1 hx;exact⟨x.1,q1,q2,by unfold ND;rw[<-q3];exact h2,by unfold jk;rw[h1,q3]⟩
theorem akx {b nm} (h:∀k,k<cnt b->used b k->ND b k≠nm):jk b nm=(-1,0):=
 Ik λy hy=>by obtain⟨q1,q2,q3⟩:=CJ.1 hy;rw[q3];exact h y.1 q1 q2
theorem amP {b nm} (hg:Good b) {k} (hk:k<cnt b) (hu:used b k) (hn:ND b k=nm):jk b nm=((k:Int),(rd b k).1.i):=by
 have h0:0<=(jk b nm).1:=by
  by_cases h:0<=(jk b nm).1
  .exact h
  .exfalso;have hm:(k,(rd b k).1)∈OJ b:=CJ.2 ⟨hk,hu,rfl⟩;have ad4:=aeQ h;have:∀l:List (Nat×yZ),(k,(rd b k).1)∈l->0<=(kR nm l).1:=by
    intro l
    induction l with
    |nil=>intro h;cases h
    |cons x t ih=>
     intro hm;rw[kR]
     split
     .simp
     .rename_i di;rcases bS.1 hm with h|h
      .subst h;exact absurd hn di
      .exact ih h
   exact h (this _ hm)
 obtain⟨j,h1,h2,h3,h4⟩:=amO h0;have:j=k:=by
  rcases Nat.lt_trichotomy j k with h|h|h
  .exact absurd (h3.trans hn.symm) (hg.apart j k h hk h2 hu)
  .exact h
  .exact absurd (hn.trans h3.symm) (hg.apart k j h h1 hu h2)
 subst this;exact h4
end Dir
end
section
open RowKit
namespace Dir
theorem akw {b e} (h:akv b e=0):Good b/\iD e=0/\∀k,k<cnt b->used b k->ND b k≠e.nm:=by
 unfold akv at h;split at h
 .rename_i hg;split at h
  .rename_i hw;split at h
   .cases h
   .rename_i hf;refine⟨jm.1 hg,hw,λk hk hu hn=>hf ?_⟩;rw[amP (jm.1 hg) hk hu hn];simp
  grind
 .cases h
end Dir
end
end Go.Proofs.YtnieckfelfoopaaGreat
