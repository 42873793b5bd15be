/- Plain lemmas and contracts; the conditions are in each. -/
import Derived.Test.YtdfppjcaelghhaaGreatDoorEnIG
import Derived.Test.YtdfppjcaelghhaaGreatDoorEnLy
namespace Go.Proofs.YtdfppjcaelghhaaGreatDoor
open Go Go.Sl
structure eN where
 D:aq
 num:Nat
 xs:List db
 k:dk
 ent:Nat->List ao
 T:List ao
 ws:List (List ao)
 seq:Nat
 sure:Nat
 H:List (Nat×Nat)
 W:List ao
def eN.looks (v:eN):List Nat:=v.seq::v.H.map (·.1)
def eN.all (v:eN):List ao:=v.T++lO v.k v.ent
def fy (w:List ao):List UInt8:=w.flatMap jz
structure EnCore (v:eN)(B N n0:Nat):Prop where
 disk:qb v.D v.num v.xs v.k v.ent (·∈jL v.k.al)
 rise:fc v.T
 cont:qc v.W v.all v.seq v.looks
 many:v.all.length<=N
 small:v.T.length<=1024
 lv0:(eE 0 v.k.files).length<=n0
 lv1:(eE 1 v.k.files).length<=3
 lv3:(eE 3 v.k.files).length<=3
 num:v.num<=B
 next:v.k.next<=B
 seq:v.seq<=B
 zN:v.k.seq<=v.seq
 held:∀q∈v.H,q.1<=v.seq/\0<q.2/\q.2<=B
 qw:(v.H.map (·.1)).Nodup
def yD (v:eN)(N:Nat):Prop:=(v.D.size=8388608/\N<=2300)\/(400000<=v.D.size/\(al [] (cf v.xs)).length<=20000/\v.T=[]/\v.k.files=[]/\v.k.al=0)
theorem sx:∀(m:Nat){l:List ao},l.length<=m->(dl l).length<=l.length / 1024+1
 | m,l,hm=>by
   by_cases h:l=[]
   ·subst h;rw[jF];simp
   ·have hp:=qT h
    have E:=ww l;have y:=I4 l;have I:=ZO.2 h;rw[lA h,List.length_cons];by_cases z:ld l=l.length
    ·have:l.drop (ld l)=[]:=Yj oMg
     rw[this,jF];simp
    ·have:=sx (l.drop (ld l)).length (l:=l.drop (ld l)) (Zm _)
     rw[ZF]at this;omega
termination_by _ l=>l.length
decreasing_by rw[ZF];omega
theorem vd {l:List ao}(E:∀x∈l,fS x)(I:fc l)(M:l.length<=2300):∀c∈dl l,fV c/\c.length<=4096/\(cq c).length<=1048576:=fun c z=>by
 have y:=qV E I c z;have J:=(og rfl c z).2.length_le;have K:=te y oMg;exact⟨y,oMg,oMg⟩
theorem G9 {l:List ao}(E:∀x∈l,fS x)(I:fc l)(K:l.length<=2300):pQ (dl l)<=400*l.length+200*(dl l).length:=by
 have h:=o7 (fun c:List ao=>c) 400 200 (fun c=>(cq c).length) (dl l) fun c y=>by
  have z:=qV E I c y;have J:=(og rfl c y).2.length_le;exact te z oMg
 have e:(dl l).flatMap (fun c=>c)=l:=by
  have:=oI l.length (l:=l) rfl
  rwa [List.flatten_eq_flatMap]at this
 rw[e]at h;exact h
section
variable {v:eN}{B N n0:Nat}
theorem EnCore.files (h:EnCore v B N n0):v.k.files.length<=n0+6:=by
 have e:∀l:List bi,(∀f∈l,f.level=0\/f.level=1\/f.level=3)->l.length=(eE 0 l).length+(eE 1 l).length+(eE 3 l).length:=by
  intro l
  induction l with
  | nil=>exact fun _=>rfl
  | cons f l I =>
    intro z;have y:=I fun g E=>z g (Zh _ E);unfold eE at y ⊢;rcases z f (Zj ..)with e | e | e <;> simp[e] <;> omega
 have y:=e v.k.files h.disk.lev;have J:=h.lv0;have K:=h.lv1;have M:=h.lv3;omega
theorem EnCore.ok (h:EnCore v B N n0):∀x∈v.all,fS x/\x.seq<=v.seq:=fun x y=>h.cont.ok x (h.cont.sub x y)
theorem EnCore.okT (h:EnCore v B N n0):∀x∈v.T,fS x:=fun x y=>(h.ok x (ZN _ y)).1
theorem EnCore.AK (h:EnCore v B N n0):v.T.length+(lO v.k v.ent).length<=N:=by
 have:=h.many;unfold eN.all at this;rw[Ze]at this;exact this
abbrev eN.nx (v:eN):Nat:=max 1 v.k.next
theorem EnCore.below (h:EnCore v B N n0):∀f∈v.k.files,f.num<v.nx:=fun f y=>by
 have:=(h.disk.each f y).num;show _<max 1 v.k.next;omega
theorem N5 {D:aq}(y:cJ D)(n:Nat):((jL n).map (pA D)).sum<=1048576:=by
 unfold jL
 split
 ·simp
 ·have:=AH y (ez n)
  simpa using this
theorem Cr {D:aq}(y:cJ D):∀L:List ByteArray,(L.map (pA D)).sum<=1048576*L.length
 | []=>by simp
 | s::L=>by
   have z:=AH y s;have E:=Cr y L;rw[Zy,List.sum_cons,List.length_cons];omega
theorem EnCore.NK (h:EnCore v B N n0)(y:cJ v.D)(z:v.num<4294967296)(E:n0<=5){l:List ao}(Z:l.length<=N)(I:∀x∈l,fS x)(J:fc l)(hs:v.D.size=8388608)(U:N<=2300):yG v.D (dl l):=by
 have hn:=(h.disk.names y).1;have V:=h.files;have Y:=ux v.k.al;have hu:=h.disk.used y z;have hm:=h.disk.man.LH y;have hz:=h.AK;have K:=sx _ (Zm l.length);have M:=G9 I J oMg;have O:=N5 y v.k.al;exact⟨oMg,oMg⟩
theorem EnCore.OM (h:EnCore v B N n0)(y:cJ v.D)(J:v.num<4294967296)(E:n0<=5)(z:yD v N):yG v.D (dl v.T):=by
 rcases z with⟨K,M⟩ | ⟨K,M,r3,O,U⟩
 ·exact h.NK y J E (by have:=h.AK;omega) h.okT h.rise K M
 ·have hn:=(h.disk.names y).1
  have hu:=h.disk.used y J;rw[r3,jF];have Z:(lO v.k v.ent).length=0:=by unfold lO;rw[O];rfl
  have V:((jL v.k.al).map (pA v.D)).sum=0:=by rw[U];rfl
  have I:v.k.files.length=0:=by rw[O];rfl
  have Y:(jL v.k.al).length=0:=by rw[U];rfl
  rw[Z,V,I]at hu;rw[I,Y]at hn;exact⟨by simp;omega,by simp[pQ];omega⟩
theorem EnCore.good (h:EnCore v B N n0)(J:n0<=5){z:aq}{L:List ByteArray}(E:qb z v.num v.xs v.k v.ent (·∈L))(y:cJ z)(Y:L.length<=5)(hs:z.size=8388608)(Z:N<=2300){x:db}(K:kh x.added=true)(I:(de x).length<=32768)(hd:∃M,wz v.k x=some M):nU z v.k v.xs x:=by
 have O:=E.sV y;have U:=Cr y L;have V:=h.files;have hz:=h.AK;exact⟨K,I,hd,.inl oMg,oMg⟩
end
open Go Go.Sl
theorem DF {l:List ao}(h:l.length<=1024):(dl l).length<=1:=by
 by_cases y:l=[]
 ·subst y;rw[jF];simp
 ·have z:=ww l
  rw[lA y,Yj oMg,jF];simp
def ry (D:aq)(n g:Nat):aq:={jY {D with now:=cG D.now (ez n)} (ez n) g with sure:=(jY {D with now:=cG D.now (ez n)} (ez n) g).now}
theorem qb.begins {D:aq}{num:Nat}{xs:List db}{k:dk}{ent:Nat->List ao}{L:List ByteArray}{n g:Nat}(h:qb D num xs k ent (·∈L))(O:cw D.files g=none)(_hn:∀f∈k.files,f.num<n)(I:n<4294967296)(U:((ry D n g).now.map (·.1)).Nodup)(J:L.length+1+k.files.length<=50) :
 qb (ry D n g) num xs k ent (·∈L++[ez n]):=by
 have z:∀s,(gc s=true\/∃f∈k.files,s=cY f.num)->s≠ez n:=fun s y e=>by
  subst e;rcases y with y | ⟨f,E,e⟩
  ·rw[oW]at y;cases y
  ·exact jJ (h.nums f E) I e.symm
 have V:Kept (fun s=>gc s=true\/∃f∈k.files,s=cY f.num) D (ry D n g) :=
  ((Kept.gone z).trans (Kept.made (D:={D with now:=cG D.now (ez n)}) O z)).trans Kept.names
 have K:lN (ry D n g) fun s=>s∈L++[ez n]\/∃f∈k.files,s=cY f.num:=(((h.only.gone (ez n)).made (ez n) g).names).mono fun s y=>by
  rcases y with⟨y | y,_⟩ | y
  ·exact .inl (ZN _ y)
  ·exact .inr y
  ·exact .inl (Ym _ (by rw[y];exact ZE.2 rfl))
 refine h.turn V rfl K ?_
 have M:lN (ry D n g) (·∈(L++[ez n])++k.files.map fun f=>cY f.num):=K.mono fun s y=>by
  rcases y with y | ⟨f,E,rfl⟩
  ·exact ZN _ y
  ·exact Ym _ (Zz.2 ⟨f,E,rfl⟩)
 have:=Df U M;simp only[Ze,ZW,List.length_singleton]at this;omega
theorem qb.same {D:aq}{num:Nat}{xs:List db}{k:dk}{ent:Nat->List ao}{P y:ByteArray->Prop}(h:qb D num xs k ent P)(z:∀s,P s->y s):qb D num xs k ent y :=
 ⟨h.man,h.each,h.only.mono fun s E=>E.imp (z s) id,h.lev,h.jn⟩
theorem Eh (D:aq)(n g:Nat):MG (ry D n g) n [] 0:=by
 refine⟨g,?_,?_⟩
 ·show br (cV (cG D.now (ez n)) (ez n) g) (ez n)=_
  rw[fN,if_pos rfl]
 ·show cw ((g,⟨[],0⟩)::D.files) g=_
  simp[cw,al]
theorem JL {P:ByteArray->Prop}{D:aq}{n g:Nat}(y:cw D.files g=none)(hp:∀s,P s->s≠ez n):Kept P D (ry D n g) :=
 ((Kept.gone hp).trans (Kept.made (D:={D with now:=cG D.now (ez n)}) y hp)).trans Kept.names
theorem BN (i:Int)(l:List bi):(eE i (ei l)).length=(eE i l).length:=((YI l JN).filter _).length_eq
theorem xf (i:Int)(a b:List bi):(eE i (a++b)).length=(eE i a).length+(eE i b).length:=by unfold eE;rw[Yp,Ze]
theorem qR (i lv:Int):∀(n:Nat)(cs:List (List ao)),(eE i (cX lv n cs)).length=if lv=i then cs.length else 0
 | n,[]=>by simp[cX,eE]
 | n,c::cs=>by
   have h:=qR i lv (n+1) cs;unfold eE at h ⊢;simp only[cX,YZ];by_cases e:lv=i
   ·rw[if_pos e]at h ⊢
    have:((mI lv n c).level==i)=true:=by rw[<-e];simp[mI]
    rw[this,if_pos rfl,List.length_cons,h,List.length_cons]
   ·rw[if_neg e]at h ⊢
    have:((mI lv n c).level==i)=false:=by simp[mI,e]
    rw[this];simpa using h
theorem ja {l:List bi}:(l.filter fun f => !([]:List Nat).contains f.num)=l:=ZR.2 fun f _=>by simp
section
variable {v:eN}{B N:Nat}
abbrev eN.cs (v:eN):List (List ao):=dl v.T
abbrev eN.nj (v:eN):Nat:=v.nx+v.cs.length
abbrev eN.l7 (v:eN):db:=⟨cX 0 v.nx v.cs,[],v.nj,v.nj+1,v.seq⟩
abbrev eN.kw (v:eN):dk:=⟨ei ((v.k.files.filter fun f => !([]:List Nat).contains f.num)++cX 0 v.nx v.cs),v.nj,v.nj+1,v.seq⟩
theorem EnCore.cs1 (h:EnCore v B N 4):v.cs.length<=1:=DF h.small
theorem EnCore.njB (h:EnCore v B N 4):v.nj<=B+2:=by
 have y:=h.cs1;have z:=h.next;show max 1 v.k.next+_≤_;omega
theorem EnCore.MQ (h:EnCore v B N 4):∀c∈v.cs,fV c/\c.length<=4096/\(cq c).length<=1048576:=vd h.okT h.rise (by have:=h.small;omega)
theorem EnCore.F8 (h:EnCore v B N 4)(_hB:B+8<4294967296):wz v.k v.l7=some v.kw:=by
 have I:=h.njB;refine DQ h.disk.man.know v.nj (v.nj+1) v.seq (fun f y=>?_) ?_ (fun f y g E e=>?_) (by simp) (fun n hn=>by cases hn)
 ·obtain⟨i,z,rfl⟩:=jm y
  exact ut (h.MQ _ (Zq z)).1 (.inl rfl)
 ·rw[iB];exact List.nodup_range'
 ·obtain⟨i,z,rfl⟩:=jm y
  have J:=h.below g E;have e:v.nx+i=g.num:=e;omega
theorem EnCore.F9 (h:EnCore v B N 4):∀f∈v.l7.added,oC f=true:=fun f y=>by
 obtain⟨i,z,rfl⟩:=jm y;exact ut (h.MQ _ (Zq z)).1 (.inl rfl)
theorem EnCore.Lv (h:EnCore v B N 4)(E:B+8<4294967296):∀f∈v.l7.added,f.num<4294967296:=fun f y=>by
 obtain⟨i,I,rfl⟩:=jm y;have z:=h.njB;have e:v.nx+v.cs.length=v.nj:=rfl;show v.nx+i<_;omega
theorem EnCore.Lu (h:EnCore v B N 4)(y:B+8<4294967296):(de v.l7).length<=200:=by
 have z:=h.njB;have E:=h.cs1;have I:=h.seq;have J:v.l7.added.length=v.cs.length:=lo 0 v.cs v.nx;have:=BZ (x:=v.l7) h.F9 (h.Lv y) (fun n hn=>by cases hn) oMg (by simp) (by show v.nj<_;omega) (by show v.nj+1<_;omega) (by show v.seq<_;omega);have K:v.l7.removed.length=0:=rfl;omega
theorem EnCore.N3 (h:EnCore v B N 4)(I:B+8<4294967296){z:aq}{L:List ByteArray}(M:qb z v.num v.xs v.k v.ent (·∈L))(E:cJ z)(hL:L.length<=3)(hs:z.size=v.D.size)(J:v.T=[]->v.k.al=0->(L.map (pA z)).sum=0)(y:yD v N):nU z v.k v.xs v.l7:=by
 have h1:=h.Lu I;rcases y with⟨O,K⟩ | ⟨O,K,r3,U,r5⟩
 ·exact h.good oMg M E oMg (hs.trans O) K ((oV _).2 h.F9) oMg ⟨_,h.F8 I⟩
 ·have V:=M.sV E
  have Y:=J r3 r5;have Z:(lO v.k v.ent).length=0:=by unfold lO;rw[U];rfl
  have h6:v.k.files.length=0:=by rw[U];rfl
  rw[Y,Z,h6]at V;exact⟨(oV _).2 h.F9,oMg,⟨_,h.F8 I⟩,.inr ⟨oMg,K,oMg⟩,oMg⟩
def tM (D:aq)(y:Nat):aq:=if y=0 then D else {D with now:=cG D.now (ez y),sure:=cG D.now (ez y)}
abbrev eN.nY (v:eN)(E:aq)(y:Nat)(z:List db):eN:=⟨tM E v.k.al,y,z,v.kw,lK v.ent v.nx v.cs,[],[],v.seq,v.seq,v.H,v.W⟩
structure cv (v:eN)(B N n0:Nat):Prop extends EnCore v B N n0 where
 tf:∀s,br v.D.sure s=br v.D.now s
 Bq:∃su,MG v.D v.k.al (v.ws.map fy) su/\(al [] ((v.ws.take (v.sure-v.k.seq)).map fy)).length<=su
 zK:0<v.k.al
 tab:v.T.Perm v.ws.flatten
 BH:∀i (hi:i<v.ws.length),v.ws[i]≠[]/\∀x∈v.ws[i],x.seq=v.k.seq+i+1
 BD:v.seq=v.k.seq+v.ws.length
 vY:v.k.seq<=v.sure/\v.sure<=v.seq
theorem EnCore.nY (h:EnCore v B N 4)(hB:B+8<4294967296){E K:aq}{g z:Nat}{V:List db}(l:qQ v.D v.nx v.cs E)(ag:(E.now.map (·.1)).Nodup)(hg:cw E.files g=none)(ah:((ry {E with sure:=E.now} v.nj g).now.map (·.1)).Nodup)
 (hm:jG K z V v.kw) (he:ki (ry {E with sure:=E.now} v.nj g) K) (av:z<=v.num+2):cv (v.nY K z V) (B+8) N 5:=by
 have hj:=h.njB;have aB:=h.cs1;have hf:=h.files;have az:v.nx+v.cs.length=v.nj:=rfl;have aD:=ux v.k.al;have J:v.nx+v.cs.length<4294967296:=by have e:v.nx+v.cs.length=v.nj:=rfl;omega
 have I:v.k.next<=v.nx:=Nat.le_max_right _ _;have ax:1<=v.nx:=Nat.le_max_left _ _;have e1:=h.disk.laid l I J ag oMg;have e4:=e1.begins (n:=v.nj) (g:=g) hg (fun f hf=>by have:=h.below f hf;have e:v.nx+v.cs.length=v.nj:=rfl;omega) J ah (by simp;omega)
 have Z:qb (ry {E with sure:=E.now} v.nj g) v.num v.xs v.k v.ent (·∈(jL v.k.al++[ez v.nj])++Ez v.nx v.cs):=e4.same fun s y=>by
  simp only[ZA]at y ⊢;rcases y with(y | y) | y
  ·exact .inl (.inl y)
  ·exact .inr y
  ·exact .inl (.inr y)
 have ae:∀i (Y:i<v.cs.length),pY (ry {E with sure:=E.now} v.nj g) (v.nx+i) v.cs[i]:=fun i Y=>by
  have h1:=Ch l J h.MQ i Y;exact h1.kept ((Kept.names (P:=fun s=>gc s=false/\s≠ez v.nj)).trans (JL hg fun s y=>y.2)) ⟨qm _,jJ oMg (by show v.nx+v.cs.length<_;omega)⟩
 have e5:=Z.added (rem:=[]) (lv:=0) (j:=v.nj) (nx:=v.nj+1) (seq:=v.seq) ae hm he rfl I (Nat.le_succ _) oMg (.inl rfl);have au:∀s,br K.sure s=br K.now s:=MA rfl hm he;have j5:MG K v.nj [] 0:=(Eh _ v.nj g).kept he.kept (oW _)
 have O:(lO v.kw (lK v.ent v.nx v.cs)).Perm v.all:=by
  refine(yW (lv:=0) (rem:=[]) rfl h.below).trans ?_;rw[ja,oI _ rfl];exact zal
 have U:∀i:Int,(eE i v.kw.files).length=(eE i v.k.files).length+if (0:Int)=i then v.cs.length else 0:=fun i=>by
  show (eE i (ei _)).length=_;rw[BN,xf,ja,qR]
 have aF:v.nx<=B+1:=by have:=h.next;show max 1 v.k.next≤_;omega
 have ay:v.k.al<v.nx:=h.disk.jn
 have e7:qb (tM K v.k.al) z V v.kw (lK v.ent v.nx v.cs) (·∈jL v.nj):=by
  have af:jL v.nj=[ez v.nj]:=by unfold jL;rw[if_neg oMg]
  rw[af];unfold tM;by_cases M:v.k.al=0
  ·rw[if_pos M]
   refine e5.same fun s y=>?_;rw[M]at y;simpa [jL]using y
  ·rw[if_neg M]
   refine e5.gone (oW _) (fun f aa e=>jJ (e5.z6 f aa) oMg e) fun s y ai=>?_;have:jL v.k.al=[ez v.k.al]:=by unfold jL;rw[if_neg M]
   rw[this]at y;simpa [ai]using y
 have j7:MG (tM K v.k.al) v.nj [] 0:=by
  unfold tM;by_cases M:v.k.al=0
  ·rw[if_pos M];exact j5
  ·rw[if_neg M]
   refine j5.kept (P:=fun s=>s≠ez v.k.al) ((Kept.gone fun s y=>y).trans Kept.names) fun e=>?_;have:=(ql oMg oMg e).2;omega
 have s7:∀s,br (tM K v.k.al).sure s=br (tM K v.k.al).now s:=fun s=>by
  unfold tM;by_cases M:v.k.al=0
  ·rw[if_pos M];exact au s
  ·rw[if_neg M]
 have aj:=h.num;have ak:=h.seq;refine⟨⟨e7,List.Pairwise.nil,h.cont.perm O.symm,by show (lO _ _).length<=N;rw[O.length_eq];exact h.many,by simp,?_,?_,?_,by show z≤_;omega,by show v.nj+1≤_;omega,by show v.seq≤_;omega,Zm _,fun q hq=>?_,h.qw⟩,s7,⟨0,j7,by simp[al]⟩,by show 0<v.nj;omega,X9 _,fun i Y=>absurd Y (by simp),rfl,Zm _,Zm _⟩
 ·have:=h.lv0;rw[U 0,if_pos rfl];omega
 ·have:=h.lv1;rw[U 1,if_neg (by decide)];omega
 ·have:=h.lv3;rw[U 3,if_neg (by decide)];omega
 ·have:=h.held q hq;exact⟨this.1,this.2.1,oMg⟩
end
open Go Go.Sl
end Go.Proofs.YtdfppjcaelghhaaGreatDoor
