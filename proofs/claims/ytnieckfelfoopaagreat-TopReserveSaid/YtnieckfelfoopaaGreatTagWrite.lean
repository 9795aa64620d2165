import Derived.Test.YtnieckfelfoopaaGreatTagMath2
open Array renaming replicate->cB
open BitVec renaming ofInt->de
open Go.RowKit.Below renaming refl->aE
open List renaming length_append->bE,map_cons->cE,length_take->cI,take_of_length_le->cL,nil_append->cP,append_assoc->cQ,getElem_mem->cS,drop_drop->dr,take_succ_eq_append_getElem->ei
open UInt8 renaming ofNat->bx,toNat_ofNat'->eh
open Go.Value renaming int->O,slice->an,tuple->ao,bool->aq
open Go.IntKind renaming i64->aa
open Go.Ending renaming returned->ar
open Go.RowKit renaming Hid->aL
open Go.Proofs.Tryz (prog)
set_option maxRecDepth 100000
set_option maxHeartbeats 16000000
namespace Go.Proofs.YtnieckfelfoopaaGreat
open Lib (hid)
section
open RowKit
def aom (l:List UInt8) (w:World) (e:Ending) w':=∃v,e=ar v/\Own aJ 5 w' w v l/\Below w w w'
theorem qH (X n:Nat) w (hX:X<18446744073709551616) (hn:n<=1000000):
    Calls prog 124 #[O .u64 X,O aa n] w (aom (aQ X n) w):=by
  go_in
  go_wp2
  go_loopw [0,5,6] (λx v i wr=>∃k:Nat,k<=n/\i=O aa k/\x=O .u64 (X/256^k:Nat)/\Own aJ 5 wr w v (aQ X k)/\Below w w wr) (λ_ _ i _=>n-(intOf i).toNat)
  case atStart=>exact⟨0,ae,rfl,au,Own.nil _ _,aE _ _⟩
  case round=>
    obtain⟨k,hk,rfl,rfl,ho,hb⟩:=hrel;obtain⟨HO,HB⟩:=cn ho hb;have iG:=hb.size;have awV:X/256^k<18446744073709551616:=Nat.lt_of_le_of_lt (Nat.div_le_self _ _) hX;obtain⟨XO,XP⟩:=cn (show X/256^k/256=X/256^(k+1) by rw[Nat.div_div_eq_div_mul,Nat.pow_succ]) (show(bx (X/256^k)).toNat=X/256^k%256 by rw[eh]);generalize hY:X/256^k=Y at*;have HY:=ag hY;clear ho hb hY;by_cases aT:k<n
    · have Ep:=ag (show#[Value.int .u8 ((Y:Int)%256)]=([bx Y].map aJ).toArray by rw[show((Y:Int)%256)=((Y%256:Nat):Int) by omega,<-XP.o];rfl)
      go_wp2_with (at_builtin;refine oW rfl _ _ rfl w _ (aQ X k) rfl (HO.alloc _) _ _ _ _ [bx Y] rfl (jq.lit wr 5 [bx Y] 1 rfl ae Ep) (by rw[aU];omega) (by simp;omega) ?_;intro v1 w1 XQ qP awW)
      go_roundw
      case rel=>
        refine⟨k+1,ae,by go_num,?_,?_,?_⟩
        · rw[<-XO.o];exact congrArg (Value.int .u64) ae
        · rw[F7,HY.o];exact XQ
        · exact kD (HB.alloc iG _) (HO.alloc _) qP (by simp;omega)
      case measure=>simp[intOf];omega
    · obtain rfl:k=n:=ae
      go_wp2;go_ret;exact⟨_,rfl,HO,HB⟩
theorem aef r b w:
  Calls prog 182 #[O .u32 r.toNat,O .u8 b.toNat] w λe w'=>e=ar (O .u32 (lU.put r b).toNat)/\w=w':=by
 have gu:b.toNat<256:=b.toNat_lt
 go_in
 go_wp2
 go_loop [0,9] (λx i=>∃k:Nat,k<=8/\i=O aa k/\x=O .u32 (lU.Ef k (r^^^b.toBitVec.setWidth 32)).toNat) (λ_ i=>8-(intOf i).toNat)
 case atStart=>exact⟨0,ae,rfl,by rw[Vy,mO];rfl⟩
 case round=>
  obtain⟨k,hk,rfl,rfl⟩:=hrel;by_cases aT:k<8
  .generalize hx:lU.Ef k (r^^^b.toBitVec.setWidth 32)=x at*;have HX:=ag hx;clear hx;have h1:=Di x 1#32;by_cases hb:x&&&1#32=1#32
   .have ht:(bits BinOp.and IntKind.u32 (x.toNat:Int) 1==1)=true:=by rw[beq_iff_eq];refine h1.trans ?_;rw[hb];rfl
    clear h1;have HB:=ag hb;clear hb;go_wp2
    go_round
    case rel=>exact⟨k+1,ae,by go_num,by rw[Dj,show(3988292384:Int)=((3988292384#32).toNat:Int) from rfl,mO,lU.Ef,HX.o,lU.stp,ev HB.o]⟩
    case measure=>simp[intOf];omega
   .have ht:(bits BinOp.and IntKind.u32 (x.toNat:Int) 1==1)=false:=by rw[ew];intro hh;apply hb;have:=h1.symm.trans hh;exact BitVec.eq_of_toNat_eq (by have e:(1#32).toNat=1:=rfl;rw[e];omega)
    clear h1;have HB:=ag hb;clear hb;go_wp2
    go_round
    case rel=>exact⟨k+1,ae,by go_num,by rw[Dj,lU.Ef,HX.o,lU.stp,eo HB.o]⟩
    case measure=>simp[intOf];omega
  .obtain rfl:k=8:=ae;go_wp2;go_ret;exact⟨rfl,rfl⟩
theorem take_snoc {α:Type} (l:List α) k h:l.take (k+1)=l.take k++[l[k]]:=by rw[ei h]
theorem XR (y:BitVec 32) (k:Nat):y>>>k>>>1=y>>>(k+1):=by apply BitVec.eq_of_toNat_eq;simp only[BitVec.toNat_ushiftRight,Nat.shiftRight_add]
theorem digit_eq x (b:UInt8) k:
  (x&&&1#32=1#32->(bits BinOp.and IntKind.u32 (bits BinOp.xor IntKind.u32 (x^^^b.toBitVec.setWidth 32>>>k).toNat (b.toNat/2^k)) 1==1)=true)/\
  (¬x&&&1#32=1#32->(bits BinOp.and IntKind.u32 (bits BinOp.xor IntKind.u32 (x^^^b.toBitVec.setWidth 32>>>k).toNat (b.toNat/2^k)) 1==1)=false):=by
 have hs:(b.toNat:Int)/(2:Int)^k=((b.toBitVec.setWidth 32>>>k).toNat:Int):=by rw[<-abB,Vy];simp
 have h1:=Di x 1#32;rw[hs,mO,BitVec.xor_assoc,BitVec.xor_self,BitVec.xor_zero];refine⟨λhb=>?_,λhb=>?_⟩
 .rw[beq_iff_eq];refine h1.trans ?_;rw[hb];rfl
 .rw[ew];intro hh;apply hb;have:=h1.symm.trans hh;exact BitVec.eq_of_toNat_eq (by have e:(1#32).toNat=1:=rfl;rw[e];omega)
theorem aaM x (b:UInt8) k:
  (x&&&1#32=1#32->lU.stp x^^^b.toBitVec.setWidth 32>>>(k+1)=(x^^^b.toBitVec.setWidth 32>>>k)>>>1^^^3988292384#32)/\
  (¬x&&&1#32=1#32->lU.stp x^^^b.toBitVec.setWidth 32>>>(k+1)=(x^^^b.toBitVec.setWidth 32>>>k)>>>1):=by
 refine⟨λhb=>?_,λhb=>?_⟩
 .rw[lU.stp,ev hb,BitVec.ushiftRight_xor_distrib,XR,BitVec.xor_assoc,BitVec.xor_assoc,BitVec.xor_comm 3988292384#32]
 .rw[lU.stp,eo hb,BitVec.ushiftRight_xor_distrib,XR]
theorem TW r b w:
    Calls prog 181 #[O .u32 r.toNat,O .u8 b.toNat] w λe w'=>e=ar (O .u32 (lU.put r b).toNat)/\w=w':=by
  have gu:b.toNat<256:=b.toNat_lt
  go_in
  go_wp2
  go_loop [0,5,6] (λx i _d=>∃k:Nat,k<=8/\i=O aa k/\x=O .u32 (lU.Ef k (r^^^b.toBitVec.setWidth 32)^^^(b.toBitVec.setWidth 32>>>k)).toNat) (λ_ i _=>8-(intOf i).toNat)
  case atStart=>exact⟨0,ae,rfl,by rw[lU.Ef,BitVec.ushiftRight_zero,BitVec.xor_assoc,BitVec.xor_self,BitVec.xor_zero]⟩
  case round=>
    obtain⟨k,hk,rfl,rfl⟩:=hrel;by_cases aT:k<8
    · have hd:=digit_eq (lU.Ef k (r^^^b.toBitVec.setWidth 32)) b k
      have hn:=aaM (lU.Ef k (r^^^b.toBitVec.setWidth 32)) b k;rw[<-lU.Ef] at hn;have HN:=ag hn;clear hn;generalize lU.Ef k (r^^^b.toBitVec.setWidth 32)^^^b.toBitVec.setWidth 32>>>k=z at*;by_cases hb:lU.Ef k (r^^^b.toBitVec.setWidth 32)&&&1#32=1#32
      · have ht:=hd.1 hb
        clear hd;have HB:=ag hb;clear hb;go_wp2
        go_round
        case rel=>exact⟨k+1,ae,by go_num,by rw[Dj,show(3988292384:Int)=((3988292384#32).toNat:Int) from rfl,mO,<-HN.o.1 HB.o]⟩
        case measure=>simp[intOf];omega
      · have ht:=hd.2 hb
        clear hd;have HB:=ag hb;clear hb;go_wp2
        go_round
        case rel=>exact⟨k+1,ae,by go_num,by rw[Dj,<-HN.o.2 HB.o]⟩
        case measure=>simp[intOf];omega
    · obtain rfl:k=8:=ae
      have h8:lU.Ef 8 (r^^^b.toBitVec.setWidth 32)^^^b.toBitVec.setWidth 32>>>8=lU.put r b:=by
        have e:b.toBitVec.setWidth 32>>>8=0#32:=by apply BitVec.eq_of_toNat_eq;rw[BitVec.toNat_ushiftRight,BitVec.toNat_setWidth,Nat.shiftRight_eq_div_pow];have:b.toBitVec.toNat<256:=b.toBitVec.isLt;simp;omega
        rw[e,BitVec.xor_zero];rfl
      rw[h8];clear h8;go_wp2;go_ret;exact⟨rfl,rfl⟩
theorem aaN s a n c xs w (hx:Bytes w w a n xs):
  Calls prog 127 #[O .u32 s.toNat,an a n c] w λe w'=>e=ar (O .u32 (lU.more s xs).toNat)/\w=w':=by
 have hn:=hx.len;have AA:=hx.room;have HN:=ag hn;clear hn
 go_in
 go_wp2
 go_loop [5,7,12] (λx _c i=>∃k:Nat,k<=n/\i=O aa k/\x=O .u32 (lU.puts (~~~s) (xs.take k)).toNat) (λ_ _ i=>n-(intOf i).toNat)
 case atStart=>exact⟨0,ae,rfl,by rw[Vz];rfl⟩
 case round=>
  obtain⟨k,hk,rfl,rfl⟩:=hrel;by_cases aT:k<n
  .obtain⟨b,o,nD,rfl,hb,hc⟩:=hx.at_ aT
   go_wp2_with (go_at_call 182;refine(aef _ _ _).mono ?_;rintro e w' ⟨rfl,rfl⟩)
   go_round
   case rel=>exact⟨k+1,ae,by go_num,by rw[take_snoc _ _ nD,lU.Qz]⟩
   case measure=>simp[intOf];omega
  .obtain rfl:k=n:=ae;go_wp2;go_ret;exact⟨by rw[cL (by have:=HN.o;omega)];exact congrArg (λz=>Ending.returned (Value.int .u32 z)) (Vz _),rfl⟩
theorem Bl s a n c xs w (hx:Bytes w w a n xs):
    Calls prog 125 #[O .u32 s.toNat,an a n c] w λe w'=>e=ar (O .u32 (lU.more s xs).toNat)/\w=w':=by
  have hn:=hx.len;have AA:=hx.room;have HN:=ag hn;have hs:=s.isLt;clear hn
  go_in
  go_wp2
  go_loop [5,6] (λx i=>∃k:Nat,k<=n/\i=O aa k/\x=O .u32 (lU.puts (~~~s) (xs.take k)).toNat) (λ_ i=>n-(intOf i).toNat)
  case atStart=>exact⟨0,ae,rfl,by rw[abC];rfl⟩
  case round=>
    obtain⟨k,hk,rfl,rfl⟩:=hrel;by_cases aT:k<n
    · obtain⟨b,o,nD,rfl,hb,hc⟩:=hx.at_ aT
      go_wp2_with (go_at_call 181;refine(TW _ _ _).mono ?_;rintro e w' ⟨rfl,rfl⟩)
      go_round
      case rel=>exact⟨k+1,ae,by go_num,by rw[take_snoc _ _ nD,lU.Qz]⟩
      case measure=>simp[intOf];omega
    · obtain rfl:k=n:=ae
      have e:4294967295-((lU.puts (~~~s) (xs.take k)).toNat:Int)=((lU.more s xs).toNat:Int):=by rw[cL (by have:=HN.o;omega),abC];rfl
      have E:=ag e;clear e;have hy:=(lU.puts (~~~s) (xs.take k)).isLt;generalize lU.puts (~~~s) (xs.take k)=y at*;go_wp2;go_ret;exact⟨congrArg (λz=>Ending.returned (Value.int .u32 z)) E,rfl⟩
theorem QE a n c xs w (hx:Bytes w w a n xs):
  Calls prog 68 #[an a n c] w λe w'=>e=ar (O .u32 (lU.sum xs).toNat)/\w=w':=by
 go_in
 go_wp2_with (go_at_call 127;refine(aaN 0#32 _ _ _ xs _ hx).mono ?_;rintro e w' ⟨rfl,rfl⟩)
 go_ret;exact⟨rfl,rfl⟩
theorem TY a n c xs w (hx:Bytes w w a n xs):
    Calls prog 126 #[an a n c] w λe w'=>e=ar (O .u32 (lU.sum xs).toNat)/\w=w':=by
  go_in
  go_wp2_with (go_at_call 125;refine(Bl 0#32 _ _ _ xs _ hx).mono ?_;rintro e w' ⟨rfl,rfl⟩)
  go_ret;exact⟨rfl,rfl⟩
abbrev tagV (t:Tg):Value:= .agg #[O aa t.k,O .u32 t.p,O .u64 t.s,O .u64 t.e]
abbrev MW (t:Tg):Obj:= .cells #[O aa t.k,O .u32 t.p,O .u64 t.s,O .u64 t.e] 67
theorem MX n (h:Tg.Fits n) w:Calls prog 66 #[O aa n] w λe w'=>e=ar (aq true)/\w=w':=by
 rcases h with rfl|rfl|rfl|rfl
 all_goals
  go_in
  go_wp2;go_ret;exact⟨rfl,rfl⟩
theorem alQ n (h:¬(n=64\/n=128\/n=256\/n=512)) w:Calls prog 66 #[O aa n] w λe w'=>e=ar (aq false)/\w=w':=by
 have h1:(n==64)=false:=by rw[ew];omega
 have h2:(n==128)=false:=by rw[ew];omega
 have h3:(n==256)=false:=by rw[ew];omega
 have h4:(n==512)=false:=by rw[ew];omega
 clear h
 go_in
 go_wp2;go_ret;exact⟨rfl,rfl⟩
theorem XT n (h:Tg.Fits n) w:Calls prog 61 #[O aa n] w λe w'=>e=ar (aq true)/\w=w':=by
  rcases h with rfl|rfl|rfl|rfl
  all_goals
    go_in
    go_wp2;go_ret;exact⟨rfl,rfl⟩
theorem aaO n (h:¬(n=64\/n=128\/n=256\/n=512)) w:Calls prog 61 #[O aa n] w λe w'=>e=ar (aq false)/\w=w':=by
  have h1:(n==64)=false:=by rw[ew];omega
  have h2:(n==128)=false:=by rw[ew];omega
  have h3:(n==256)=false:=by rw[ew];omega
  have h4:(n==512)=false:=by rw[ew];omega
  clear h
  go_in
  go_wp2;go_ret;exact⟨rfl,rfl⟩
theorem sG v0 xs (X n base:Nat) w (hX:X<18446744073709551616) (hn:n<=1000) (hl:xs.length<=1000000) (h0:Own aJ 5 w base v0 xs) (dE:base<=w):
  Calls prog 67 #[v0,O .u64 X,O aa n] w λe w'=>(∃v,e=ar v/\Own aJ 5 w' base v (xs++aQ X n))/\Below base w w':=by
 have H0:=ag h0;clear h0
 go_in
 go_wp2
 go_loopw [0,1,8] (λv x i wr=>∃k:Nat,k<=n/\i=O aa k/\x=O .u64 (X/256^k:Nat)/\Own aJ 5 wr base v (xs++aQ X k)/\Below base w wr) (λ_ _ i _=>n-(intOf i).toNat)
 case atStart=>exact⟨0,ae,rfl,au,by simpa[aQ] using H0.o,aE _ _⟩
 case round=>
  obtain⟨k,hk,rfl,rfl,ho,hb⟩:=hrel;obtain⟨HO,HB⟩:=cn ho hb;have iG:=hb.size;have awV:X/256^k<18446744073709551616:=Nat.lt_of_le_of_lt (Nat.div_le_self _ _) hX;obtain⟨XO,XP⟩:=cn (show X/256^k/256=X/256^(k+1) by rw[Nat.div_div_eq_div_mul,Nat.pow_succ]) (show(bx (X/256^k)).toNat=X/256^k%256 by rw[eh]);generalize hY:X/256^k=Y at*;have HY:=ag hY;clear ho hb hY;by_cases aT:k<n
  .have Ep:=ag (show#[Value.int .u8 ((Y:Int)%256)]=([bx Y].map aJ).toArray by rw[show((Y:Int)%256)=((Y%256:Nat):Int) by omega,<-XP.o];rfl)
   go_wp2_with (at_builtin;refine oW rfl _ _ rfl base _ (xs++aQ X k) rfl (HO.alloc _) _ _ _ _ [bx Y] rfl (jq.lit wr 5 [bx Y] 1 rfl ae Ep) (by rw[bE,aU];omega) (by simp;omega) ?_;intro v1 w1 XQ qP awW)
   go_roundw
   case rel=>
    refine⟨k+1,ae,by go_num,?_,?_,?_⟩
    .rw[<-XO.o];exact congrArg (Value.int .u64) ae
    .rw[F7,HY.o,<-cQ];exact XQ
    .exact kD (HB.alloc ae _) (HO.alloc _) qP (by simp;omega)
   case measure=>simp[intOf];omega
  .obtain rfl:k=n:=ae;go_wp2;go_ret;exact⟨⟨_,rfl,HO⟩,HB⟩
theorem zh (xs:List UInt8) k h:Tg.full (xs.take (k+1))=(Tg.full (xs.take k)&&xs[k]==255):=by unfold Tg.full;rw[ei h,List.all_append];simp only[List.all_cons,List.all_nil,Bool.and_true]
theorem alR {xs k} (h:k<xs.length) (di:xs[k]≠255):Tg.full xs=false:=by rw[<-Bool.not_eq_true];intro hf;rw[Tg.full,List.all_eq_true] at hf;have:=hf xs[k] (cS h);simp at this;exact di this
theorem awX (x:UInt8):((x.toNat:Int)=255)↔x=255:=by
 constructor
 .intro h;apply UInt8.toNat_inj.1;have:(255:UInt8).toNat=255:=rfl;omega
 .rintro rfl;rfl
theorem Es a n c xs w (hx:Bytes w w a n xs):
    Calls prog 258 #[an a n c] w λe w'=>e=ar (aq (Tg.full xs))/\w=w':=by
  have AA:=hx.room;have HL:=ag hx.len
  go_in
  go_wp2
  go_loop [4,7] (λ_x i=>∃k:Nat,k<=n/\i=O aa k/\Tg.full (xs.take k)=true) (λ_ i=>n-(intOf i).toNat)
  case atStart=>exact⟨0,ae,rfl,rfl⟩
  case round=>
    obtain⟨k,hk,rfl,hf⟩:=hrel;have HF:=ag hf;clear hf;by_cases aT:k<n
    · obtain⟨b,o,nD,rfl,hb,hc⟩:=hx.at_ aT
      by_cases h2:xs[k]=255
      · rw[h2] at hc
        have h3:=zh xs k nD;rw[h2,HF.o] at h3;have H3:=ag h3;clear h3 h2;go_wp2
        go_round
        case rel=>exact⟨k+1,ae,by go_num,H3⟩
        case measure=>simp[intOf];omega
      · have h3:(((xs[k]).toNat:Int) !=255)=true:=by rw[bne_iff_ne];intro h;exact h2 ((awX _).1 h)
        have h4:=ag (alR nD h2);clear h2;go_wp2;go_ret;exact⟨by rw[h4.o];rfl,rfl⟩
    · obtain rfl:k=n:=ae
      go_wp2;go_ret;rw[cL (by rw[HL.o];omega)] at HF;exact⟨by rw[HF.o];rfl,rfl⟩
theorem ofInt_u64 (a:Nat) (ha:a<18446744073709551616):(de 64 a).toNat=a:=by rw[BitVec.ofInt_natCast,BitVec.toNat_ofNat];exact Nat.mod_eq_of_lt ae
theorem aaP (X b:Nat) (hX:X*256<=18446744073709551360) (hb:b<256):bits .or .u64 (X*256) b=((X*256+b:Nat)):=by
 have h1:X*256|||b=X*256+b:=by have:=Nat.two_pow_add_eq_or_of_lt (i:=8) (b:=b) hb X;rw[Nat.mul_comm X 256];exact this.symm
 have e:(X:Int)*256=((X*256:Nat):Int):=ae;rw[e];have a1:(de 64 ((X*256:Nat):Int)).toNat=X*256:=ofInt_u64 _ ae;have a2:(de 64 (b:Int)).toNat=b:=ofInt_u64 _ ae;show IntKind.u64.wrap ((de 64 ((X*256:Nat):Int)|||de 64 (b:Int)).toNat:Int)=_;rw[BitVec.toNat_or,a1,a2,h1];exact IntWalk.u64_in _ ⟨ae,ae⟩
theorem XU R B a n c xs k w (hR:aF w R 23 #[an a n c]) (hx:Bytes w B a n xs) (hk:k<=n) (hk8:k<=8):
  Calls prog 259 #[O aa k,R] w λe w'=>e=ar (O .u64 (dX (xs.take k)))/\w'=w.setCell (aw R 0) (an (iQ a c k) (n-k) (c-k)):=by
 have hl:=hx.len;have hm:=ag (hx.take hk);have Gz:(xs.take k).length=k:=by rw[cI];omega
 generalize hys:xs.take k=ys at*;clear hys;have HL:=ag Gz;have c0:=hR.aj (i:=0) rfl;have f0:=hR.frozen 0;clear Gz hl
 go_in
 go_wp2
 go_loop [4,5] (λx i=>∃j:Nat,j<=k/\i=O aa ((j:Int)-1)/\x=O .u64 (dX (ys.drop j):Nat)) (λ_ i=>(intOf i+1).toNat)
 case atStart=>exact⟨k,ae,rfl,by rw[List.drop_of_length_le (by have:=HL.o;omega)];rfl⟩
 case round=>
  obtain⟨j,hj,rfl,rfl⟩:=hrel;by_cases aT:0<j
  .obtain⟨b,o,nD,rfl,hb,hc⟩:=hm.at_ (k:=j-1) ae;have hd:=F8 ys (j-1) nD;rw[Nat.sub_add_cancel aT] at hd;have pM:=Ee hk8 HL.o j aT hj;have gB:=(ys[j-1]).toNat_lt;have HD:=ag hd;clear hd;have Vb:=aaP (dX (ys.drop j)) (ys[j-1]).toNat pM gB;generalize hX:dX (ys.drop j)=X at*;generalize hY:ys[j-1]=y at*;clear hX hY;obtain⟨i,rfl⟩:∃i,j=i+1:=⟨j-1,ae⟩
   rw[Nat.add_sub_cancel] at hc;rw[Nat.add_sub_cancel] at HD;rw[show((i+1:Nat):Int)-1=(i:Int) by omega];go_wp2
   go_round
   case rel=>exact⟨i,ae,by go_num,by rw[HD.o];exact congrArg (Value.int .u64) ae⟩
   case measure=>simp[intOf]
  .obtain rfl:j=0:=ae;have hcut:=kE a n c k hk;go_wp2;go_ret;exact⟨rfl,rfl⟩
structure aq6 R B m ys w w':Prop where
 rest:∃a' c',aF w' R 23 #[an a' m c']/\Bytes w' B a' m ys/\m<=c'
 far:∀{g t cs},g≠R->aF w g t cs->aF w' g t cs
 size:w'=w.heap.size
 below:∀{D},D<=R->Below D w w'
theorem jY R B a n c xs k m j i w (hR:aF w R 23 #[an a n c]) (hx:Bytes w B a n (xs.drop j)) (uD:n<=c) (hB:B<=R) (hn:n=m+k) (hi:i=j+k) (hk8:k<=8):
  Calls prog 259 #[O aa k,R] w λe w'=>e=ar (O .u64 (Tg.num xs j k))/\aq6 R B m (xs.drop i) w w':=by
 refine(XU R B a n c (xs.drop j) k w hR hx ae hk8).mono ?_;rintro e w' ⟨rfl,rfl⟩;have h:=(hx.drop (l:=k) ae uD).below ((aE B w).setCell (p:=⟨R,0,none⟩) hB (an (iQ a c k) (n-k:Nat) (c-k:Nat)));have hr:=hR.set 0 (an (iQ a c k) (n-k:Nat) (c-k:Nat));rw[dr,<-hi] at h;have e:n-k=m:=ae;rw[e] at h hr⊢;exact⟨rfl,⟨_,_,hr,h,ae⟩,λdi hb=>hb.far di _,au,λhD=>(aE _ _).setCell hD _⟩
theorem sH t (hp:t.p<4294967296) (hs:t.s<18446744073709551616) (he:t.e<18446744073709551616) w:
  Calls prog 65 #[tagV t] w λe w'=>e=ar (aq (Tg.uT t))/\Below w w w':=by
 have gB:=ag ((aE w w).alloc av (MW t));obtain⟨k,p,s,e⟩:=t;simp only at hp hs he;by_cases hk:k=1\/k=2
 case neg=>
  have h1:(k==1)=false:=by rw[ew];omega
  have h2:(k==2)=false:=by rw[ew];omega
  have hn:=ag (Tg.dB (t:=⟨k,p,s,e⟩) (λh=>hk h.1));clear hk
  go_in
  go_wp2;go_ret;exact⟨by rw[hn.o];rfl,gB⟩
 by_cases h:p<8192/\1<=s/\s<4611686018427387904/\1<=e/\e<4611686018427387904
 case pos=>
  have hn:=ag (Tg.jC (t:=⟨k,p,s,e⟩) ⟨hk,h⟩);obtain⟨h1,h2,h3,h4,h5⟩:=h;have g1:(p:Int)<8192:=ae;have g2:(1:Int)<=s:=ae;have g3:(s:Int)<4611686018427387904:=ae;have g4:(1:Int)<=e:=ae;have g5:decide ((e:Int)<4611686018427387904)=true:=ez ae;clear h1 h2 h3 h4 h5 hp hs he;rcases hk with rfl|rfl
  all_goals
   go_in
   go_wp2;go_ret;exact⟨by rw[hn.o];rfl,gB⟩
 case neg=>
  have hn:=ag (Tg.dB (t:=⟨k,p,s,e⟩) (λhh=>h hh.2));by_cases h1:p<8192
  case neg=>
   have g1:decide ((p:Int)<8192)=false:=ey ae;clear h h1 hp hs he;rcases hk with rfl|rfl
   all_goals
    go_in
    go_wp2;go_ret;exact⟨by rw[hn.o];rfl,gB⟩
  by_cases h2:1<=s
  case neg=>
   have g1:(p:Int)<8192:=ae;have g2:decide ((1:Int)<=s)=false:=ey ae;clear h h1 h2 hp hs he;rcases hk with rfl|rfl
   all_goals
    go_in
    go_wp2;go_ret;exact⟨by rw[hn.o];rfl,gB⟩
  by_cases h3:s<4611686018427387904
  case neg=>
   have g1:(p:Int)<8192:=ae;have g2:(1:Int)<=s:=ae;have g3:decide ((s:Int)<4611686018427387904)=false:=ey ae;clear h h1 h2 h3 hp hs he;rcases hk with rfl|rfl
   all_goals
    go_in
    go_wp2;go_ret;exact⟨by rw[hn.o];rfl,gB⟩
  by_cases h4:1<=e
  case neg=>
   have g1:(p:Int)<8192:=ae;have g2:(1:Int)<=s:=ae;have g3:(s:Int)<4611686018427387904:=ae;have g4:decide ((1:Int)<=e)=false:=ey ae;clear h h1 h2 h3 h4 hp hs he;rcases hk with rfl|rfl
   all_goals
    go_in
    go_wp2;go_ret;exact⟨by rw[hn.o];rfl,gB⟩
  have h5:¬e<4611686018427387904:=λh5=>h ⟨h1,h2,h3,h4,h5⟩;clear h;have g1:(p:Int)<8192:=ae;have g2:(1:Int)<=s:=ae;have g3:(s:Int)<4611686018427387904:=ae;have g4:(1:Int)<=e:=ae;have g5:decide ((e:Int)<4611686018427387904)=false:=ey ae;clear h1 h2 h3 h4 h5 hp hs he;rcases hk with rfl|rfl
  all_goals
   go_in
   go_wp2;go_ret;exact⟨by rw[hn.o];rfl,gB⟩
theorem uy t (hp:t.p<4294967296) (hs:t.s<18446744073709551616) (he:t.e<18446744073709551616) w:
    Calls prog 63 #[tagV t] w λe w'=>e=ar (aq (Tg.uT t))/\Below w w w':=by
  have gB:=ag ((aE w w).alloc av (MW t));obtain⟨k,p,s,e⟩:=t;simp only at hp hs he;by_cases hk:k=1\/k=2
  case neg=>
    have h1:(k !=1)=true:=by rw[bne_iff_ne];omega
    have h2:(k !=2)=true:=by rw[bne_iff_ne];omega
    have hn:=ag (Tg.dB (t:=⟨k,p,s,e⟩) (λh=>hk h.1));clear hk
    go_in
    go_wp2;go_ret;exact⟨by rw[hn.o];rfl,gB⟩
  by_cases h:p<8192/\1<=s/\s<4611686018427387904/\1<=e/\e<4611686018427387904
  case pos=>
    have hn:=ag (Tg.jC (t:=⟨k,p,s,e⟩) ⟨hk,h⟩);obtain⟨h1,h2,h3,h4,h5⟩:=h;have g1:(p:Int)<=8191:=ae;have g2:(0:Int)<s:=ae;have g3:(s:Int)<=4611686018427387903:=ae;have g4:(0:Int)<e:=ae;have g5:decide ((e:Int)<=4611686018427387903)=true:=ez ae;rcases hk with rfl|rfl
    all_goals
      go_in
      go_wp2;go_ret;exact⟨by rw[hn.o];rfl,gB⟩
  case neg=>
    have hn:=ag (Tg.dB (t:=⟨k,p,s,e⟩) (λhh=>h hh.2));by_cases h1:p<8192
    case neg=>
      clear h;rcases hk with rfl|rfl
      all_goals
        go_in
        go_wp2;go_ret;exact⟨by rw[hn.o];rfl,gB⟩
    by_cases h2:1<=s
    case neg=>
      clear h;rcases hk with rfl|rfl
      all_goals
        go_in
        go_wp2;go_ret;exact⟨by rw[hn.o];rfl,gB⟩
    by_cases h3:s<4611686018427387904
    case neg=>
      clear h;rcases hk with rfl|rfl
      all_goals
        go_in
        go_wp2;go_ret;exact⟨by rw[hn.o];rfl,gB⟩
    by_cases h4:1<=e
    case neg=>
      clear h;rcases hk with rfl|rfl
      all_goals
        go_in
        go_wp2;go_ret;exact⟨by rw[hn.o];rfl,gB⟩
    have h5:¬e<4611686018427387904:=λh5=>h ⟨h1,h2,h3,h4,h5⟩;clear h;have g1:(p:Int)<=8191:=ae;have g2:(0:Int)<s:=ae;have g3:(s:Int)<=4611686018427387903:=ae;have g4:(0:Int)<e:=ae;have g5:decide ((e:Int)<=4611686018427387903)=false:=ey ae;rcases hk with rfl|rfl
    all_goals
      go_in
      go_wp2;go_ret;exact⟨by rw[hn.o];rfl,gB⟩
theorem lU.ahx l m:lU.more (lU.sum l) m=lU.sum (l++m):=by simp only[lU.sum,lU.more,lU.Xr,BitVec.not_not]
theorem Jg t a n c pay w (ht:Tg.Right t) (hx:Bytes w w a n pay):
  Calls prog 64 #[tagV t,an a n c] w (aom (Tg.beside t pay) w):=by
 obtain⟨gB,HP,HX⟩:=cp ((aE w w).alloc av (MW t)) hx.len hx;obtain⟨k,p,s,e⟩:=t;obtain⟨hk,hp,ET,hs,Ff,he⟩:=id ht;simp only at hk hp ET hs Ff he;obtain⟨HHS,HHE⟩:=cn (show s<18446744073709551616 by omega) (show e<18446744073709551616 by omega);have fO:1<=k/\k<=2:=ae;obtain⟨fO,eU⟩:=fO;clear hk ht hx ET Ff hs he;obtain⟨bk0,Ep⟩:=cn (aF.new w 67 #[O aa k,O .u32 p,O .u64 s,O .u64 e]) (show#[Value.int .u8 67,Value.int .u8 85,Value.int .u8 k,Value.int .u8 0]=([67,85,bx k.toNat,0].map aJ).toArray by simp only[cE,List.map_nil,aJ,eh];rw[show((k.toNat%2^8:Nat):Int)=k by omega];rfl);have Iq:Own aJ 5 ((w.alloc (MW ⟨k,p,s,e⟩)).alloc (.cells #[O .u8 67,O .u8 85,O .u8 k,O .u8 0] 5)) (w.heap.size+1) (an (w.heap.size+1,0) 4 4) [67,85,bx k.toNat,0]:=by rw[Ep.o];have h:=Own.made (w:=w.alloc (MW ⟨k,p,s,e⟩)) (f:=aJ) (e:=5) (xs:=[67,85,bx k.toNat,0]) av (by simp[maxLen]);rw[show(w.alloc (MW ⟨k,p,s,e⟩)).heap.size=w.heap.size+1 by simp] at h;exact h
 obtain⟨tJ,df,bk2⟩:=cp Iq ((gB).alloc gB.size (.cells #[O .u8 67,O .u8 85,O .u8 k,O .u8 0] 5)) (bk0.alloc (.cells #[O .u8 67,O .u8 85,O .u8 k,O .u8 0] 5));obtain⟨wP,tu⟩:=cn (HX.below df) (show((w.alloc (MW ⟨k,p,s,e⟩)).alloc (.cells #[O .u8 67,O .u8 85,O .u8 k,O .u8 0] 5)).heap.size=w.heap.size+2 by simp);clear Iq
 go_in
 go_wp2_with fail
 have l2:[67,85,bx k.toNat,0].length=4:=rfl;generalize hL2:[67,85,bx k.toNat,0]=L2 at tJ l2 Ep;have xW:=ag hL2;clear hL2 Ep;have HZ2:w.heap.size+2<=((w.alloc (MW ⟨k,p,s,e⟩)).alloc (.cells #[O .u8 67,O .u8 85,O .u8 k,O .u8 0] 5)).heap.size:=Nat.le_of_eq tu.symm;generalize (w.alloc (MW ⟨k,p,s,e⟩)).alloc (.cells #[O .u8 67,O .u8 85,O .u8 k,O .u8 0] 5)=w2 at*;refine(qH p 4 _ ae ae).mono ?_;rintro _ w3 ⟨v3,rfl,hy,hb⟩;obtain⟨a3,c3,rfl,_⟩:=hy.bG (n:=4) (by simp[aU]);obtain⟨hy3,tN,bk3,cO⟩:=cr (hy.arr (by simp[aU])) (tJ.on hb) (bk2.ah hb) (df.trans (hb.mono ae));have EN:=hb.size;clear hy hb tJ bk2 df
 go_wp2_with (at_builtin;refine ik rfl _ _ rfl (w.heap.size+1) _ L2 rfl tN _ _ 4 _ (aQ p 4) rfl hy3 ae ae ?_;intro v4 w4 x9 eG;have YY:=ag (bk3.below eG ae);have jM:=ag (cO.trans (eG.mono ae));have UN:=eG.size;have q2:=YY.aj (i:=2) rfl)
 clear q2;generalize hL4:L2++aQ p 4=L4 at x9;have l4:L4.length=8:=by rw[<-hL4];simp[aU];omega
 have PT:=ag hL4;clear hL4 hy3 tN bk3 cO eG;refine(qH s 8 _ HHS ae).mono ?_;rintro _ w5 ⟨v5,rfl,hy,hb⟩;obtain⟨a5,c5,rfl,_⟩:=hy.bG (n:=8) (by simp[aU]);obtain⟨hy5,Gs,bk5,je⟩:=cr (hy.arr (by simp[aU])) (x9.on hb) (YY.ah hb) (jM.trans (hb.mono ae));have YT:=hb.size;clear hy hb x9 YY jM
 go_wp2_with (at_builtin;refine ik rfl _ _ rfl (w.heap.size+1) _ L4 rfl Gs _ _ 8 _ (aQ s 8) rfl hy5 ae ae ?_;intro v6 w6 BQ fJ;have bk6:=ag (bk5.below fJ ae);have ve:=ag (je.trans (fJ.mono ae));have hs6:=fJ.size;have q3:=bk6.aj (i:=3) rfl)
 clear q3;generalize hL6:L4++aQ s 8=L6 at BQ;have l6:L6.length=16:=by rw[<-hL6];simp[aU];omega
 have NH:=ag hL6;clear hL6 hy5 Gs bk5 je fJ;refine(qH e 8 _ HHE ae).mono ?_;rintro _ w7 ⟨v7,rfl,hy,hb⟩;obtain⟨a7,c7,rfl,_⟩:=hy.bG (n:=8) (by simp[aU]);obtain⟨hy7,uB,bk7,nY⟩:=cr (hy.arr (by simp[aU])) (BQ.on hb) (bk6.ah hb) (ve.trans (hb.mono ae));have hs7:=hb.size;clear hy hb BQ bk6 ve
 go_wp2_with (at_builtin;refine ik rfl _ _ rfl (w.heap.size+1) _ L6 rfl uB _ _ 8 _ (aQ e 8) rfl hy7 ae ae ?_;intro v8 w8 VI ny;have bk8:=ag (bk7.below ny ae);have UG:=ag (nY.trans (ny.mono ae));have hs8:=ny.size)
 generalize ZN:L6++aQ e 8=L8 at VI;have l8:L8.length=24:=by rw[<-ZN];simp[aU];omega
 have JI:=ag ZN;clear ZN hy7 uB bk7 nY ny;have ZN:L8=Tg.head ⟨k,p,s,e⟩:=by rw[<-JI.o,<-NH.o,<-PT.o,<-xW.o];rfl
 have HL:=ag ZN;clear ZN;have hx8:=ag ((HX.below UG).mono (show w.heap.size<=w8.heap.size by omega));refine(TY a n c pay _ hx8).mono ?_;rintro _ w9 ⟨rfl,rfl⟩;obtain⟨a8,c8,rfl,YV⟩:=VI.bG l8;have aDl:=ag (VI.arr ae);go_wp2_with fail;refine(Bl (lU.sum pay) _ _ _ L8 _ aDl).mono ?_;rintro _ w9 ⟨rfl,rfl⟩;rw[lU.ahx];have aqH:=(lU.sum (pay++L8)).isLt;have HSM:=ag (show(lU.sum (pay++L8)).toNat=Tg.sumOf ⟨k,p,s,e⟩ pay by rw[HL.o];rfl);generalize (lU.sum (pay++L8)).toNat=S at*;go_wp2_with fail;refine(qH S 4 _ ae ae).mono ?_;rintro _ E5 ⟨v10,rfl,hy,hb⟩;obtain⟨a10,c10,rfl,_⟩:=hy.bG (n:=4) (by simp[aU]);obtain⟨aDm,arb,aDn,aeg⟩:=cr (hy.arr (by simp[aU])) (VI.on hb) (bk8.ah hb) (UG.trans (hb.mono ae));have alU:=hb.size;clear hy hb VI bk8 UG;have aDo:=ag (show#[Value.int .u8 0,Value.int .u8 0,Value.int .u8 0,Value.int .u8 0]=(([0,0,0,0]:List UInt8).map aJ).toArray from rfl)
 go_wp2_with (first
  |(at_builtin;refine ik rfl _ _ rfl (w.heap.size+1) _ L8 rfl arb _ _ 4 _ (aQ S 4) rfl aDm ae ae ?_;intro v11 sZ aDp TZ;have aDq:=ag (aeg.trans (TZ.mono ae));have aKI:=TZ.size;have l11:(L8++aQ S 4).length=28:=(by simp[aU];omega))
  |(at_builtin;refine GI rfl _ _ rfl (w.heap.size+1) _ (L8++aQ S 4) rfl aDp 4 [0,0,0,0] rfl rfl aDo ae ae ?_;intro v12 UF aDr MZ;have Ua:=ag (aDq.trans (MZ.mono ae))))
 go_ret;refine⟨_,rfl,?_,Ua⟩;have h:=aDr.mono (base':=w.heap.size) ae;rw[HL.o,HSM.o] at h;exact h
theorem Hl t a n c pay w (ht:Tg.Right t) (hf:Tg.Fits n) (hx:Bytes w w a n pay):
  Calls prog 26 #[tagV t,an a n c] w λe w'=>(∃v,e=ar (ao #[v,O aa 0])/\Own aJ 5 w' w v (Tg.page t pay))/\Below w w w':=by
 have gB:=ag ((aE w w).alloc av (MW t));have hrb:=Tg.jC ht;have HP:=ag hx.len;have gu:64<=n/\n<=512:=by unfold Tg.Fits at hf;omega
 obtain⟨bP,aZ⟩:=gu;obtain⟨HF,HX⟩:=cn hf hx;obtain⟨k,p,s,e⟩:=t;obtain⟨hk,hp,ET,hs,Ff,he⟩:=id ht;simp only at hk hp ET hs Ff he;obtain⟨HR,HHP,HHS,HHE⟩:=cr ht (show p<8192 from hp) (show s<18446744073709551616 by omega) (show e<18446744073709551616 by omega);have fO:1<=k/\k<=2:=ae;obtain⟨fO,eU⟩:=fO;clear hk ht hf hx ET Ff hs he;have bk0:=ag (aF.new w 67 #[O aa k,O .u32 p,O .u64 s,O .u64 e]);have wI:=auo (n+32) ae;rw[show((n+32:Nat):Int)=(n:Int)+32 by omega] at wI
 go_in
 go_wp2_with fail;refine(sH ⟨k,p,s,e⟩ (show p<4294967296 by omega) HHS HHE _).mono ?_;rw[hrb];rintro e1 w1 ⟨rfl,hb⟩;obtain⟨bk1,bV⟩:=cn (bk0.ah hb) (Below.aA gB hb);have aT:=bk1.lt;clear hb bk0 gB hrb;go_wp2_with fail;refine(MX n HF _).mono ?_;rintro e2 w2 ⟨rfl,rfl⟩;have Iq:=ag (afG w1 w1 (n+32) av ae);have aZ:=bV.alloc bV.size (.cells (cB (n+32) (O .u8 0)) 5);obtain⟨df,bk2,wP⟩:=cp aZ (bk1.alloc (.cells (cB (n+32) (O .u8 0)) 5)) (HX.below aZ);clear aZ;have Ep:=ag (show#[Value.int .u8 67,Value.int .u8 85,Value.int .u8 k,Value.int .u8 0]=([67,85,bx k.toNat,0].map aJ).toArray by simp only[cE,List.map_nil,aJ,eh];rw[show((k.toNat%2^8:Nat):Int)=k by omega];rfl)
 go_wp2_with (first
  |(at_builtin;refine ik rfl _ _ rfl w1 _ [] rfl Iq _ _ _ _ pay rfl wP (by simp;omega) au ?_;intro v3 w3 tN bJ;have bk3:=ag (bk2.below bJ aT);have EN:w1.heap.size<w3.heap.size:=(by have:=bJ.size;simp at this;omega);have q0:=bk3.aj (i:=0) rfl)
  |(at_builtin;refine GI rfl _ _ rfl w1 _ ([]++pay) rfl tN 4 [67,85,bx k.toNat,0] rfl rfl Ep (by rw[cP,HP.o];omega) ae ?_;intro v4 w4 x9 eG;have YY:=ag (bk3.below eG aT);have UN:=eG.size;have q1:=YY.aj (i:=1) rfl))
 clear q0 q1 wI;have eG:=ag (bJ.trans eG);generalize hL4:[]++pay++[67,85,bx k.toNat,0]=L4 at x9;have l4:L4.length=n+4:=by rw[<-hL4];simp[HP.o]
 have PT:=ag hL4;clear hL4;refine(sG _ L4 p 4 w1 _ ae ae ae x9 ae).mono ?_;rintro _ w5 ⟨⟨v5,rfl,ho⟩,hb⟩;have YT:=hb.size;obtain⟨bk5,eQ⟩:=cn (YY.below hb aT) (eG.trans hb);generalize hL5:L4++aQ p 4=L5 at ho;have l5:L5.length=n+8:=by rw[<-hL5];simp[aU];omega
 obtain⟨Gs,HL5⟩:=cn ho hL5;clear ho hb hL5 YY eG x9;have q2:=bk5.aj (i:=2) rfl;go_wp2_with fail;clear q2;refine(sG _ L5 s 8 w1 _ HHS ae ae Gs ae).mono ?_;rintro _ w6 ⟨⟨v6,rfl,ho⟩,hb⟩;have hs6:=hb.size;obtain⟨bk6,fJ⟩:=cn (bk5.below hb aT) (eQ.trans hb);generalize hL6:L5++aQ s 8=L6 at ho;have l6:L6.length=n+16:=by rw[<-hL6];simp[aU];omega
 obtain⟨BQ,NH⟩:=cn ho hL6;clear ho hb hL6 bk5 eQ Gs;have q3:=bk6.aj (i:=3) rfl;go_wp2_with fail;clear q3;refine(sG _ L6 e 8 w1 _ HHE ae ae BQ ae).mono ?_;rintro _ w7 ⟨⟨v7,rfl,ho⟩,hb⟩;have hs7:=hb.size;obtain⟨bk7,jr⟩:=cn (bk6.below hb aT) (fJ.trans hb);generalize hL7:L6++aQ e 8=L7 at ho;have l7:L7.length=n+24:=by rw[<-hL7];simp[aU];omega
 obtain⟨uB,HL7⟩:=cn ho hL7;clear ho hb hL7 bk6 fJ BQ;have hL7:L7=pay++Tg.head ⟨k,p,s,e⟩:=by rw[<-HL7.o,<-NH.o,<-HL5.o,<-PT.o];simp[Tg.head]
 have HL:=ag hL7;clear hL7;obtain⟨a7,c7,rfl,_⟩:=uB.bG l7;have aDt:=ag (uB.arr ae);go_wp2_with fail;refine(QE _ _ _ L7 _ aDt).mono ?_;rintro _ w8 ⟨rfl,rfl⟩;have aqH:=(lU.sum L7).isLt;have HSM:=ag (show(lU.sum L7).toNat=Tg.sumOf ⟨k,p,s,e⟩ pay by rw[HL.o];rfl);generalize (lU.sum L7).toNat=S at*;go_wp2_with fail;refine(sG _ L7 S 4 w1 _ ae ae ae uB ae).mono ?_;rintro _ w9 ⟨⟨v9,rfl,ho⟩,hb⟩;have hs9:=hb.size;obtain⟨bk9,iM⟩:=cn (bk7.below hb aT) (jr.trans hb);generalize hL9:L7++aQ S 4=L9 at ho;have l9:L9.length=n+28:=by rw[<-hL9];simp[aU];omega
 obtain⟨HO9,I5⟩:=cn ho hL9;clear ho hb hL9 bk7 jr uB;go_wp2_with fail;refine(sG _ L9 0 4 w1 _ ae ae ae HO9 ae).mono ?_;rintro _ E5 ⟨⟨v10,rfl,ho⟩,hb⟩;have alU:=hb.size;obtain⟨aDn,DJ⟩:=cn (bk9.below hb aT) (iM.trans hb);generalize arc:L9++aQ 0 4=L10 at ho;have l10:L10.length=n+32:=by rw[<-arc];simp[aU];omega
 obtain⟨arb,OU⟩:=cn ho arc;clear ho hb arc bk9 iM HO9;have Jh:L10=Tg.page ⟨k,p,s,e⟩ pay:=by rw[<-OU.o,<-I5.o,HL.o,HSM.o,Tg.alp];rfl
 obtain⟨HB,HO⟩:=cn (df.trans (DJ.mono (Nat.le_of_lt aT))) (Jh▸arb.mono (Nat.le_of_lt aT));clear Jh;go_wp2;go_ret2;exact⟨⟨_,rfl,HO⟩,HB⟩
end
end Go.Proofs.YtnieckfelfoopaaGreat
