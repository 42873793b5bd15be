/- Plain lemmas and contracts; the conditions are in each. -/
import Derived.Laws.IdiomCopy
import Derived.Test.YtdfppjcaelghhaaGreatDoorEdBG
import Derived.Test.YtdfppjcaelghhaaGreatDoorEnBG
set_option maxRecDepth 8000
set_option maxHeartbeats 8000000
namespace Go.Proofs.YtdfppjcaelghhaaGreatDoor
open Go.RowKit Go.Sl
attribute [local go_sem] ab bj bh bd
structure Fv (x:ao):Prop where
 key:x.key.size<=300
 value:x.value.size<=300
 seq:x.seq<18446744073709551616
theorem vk (s:ByteArray):s.data.toList.length=s.size:=by rw[Array.length_toList];rfl
theorem Kd (B:Option Addr)(n c:Nat)(xs:List UInt8)(x:ao)(hx:Fv x)(hg:x.gone=true)(w w0:World)(S:ba)(m:Mod w w0 S)(r:bk S B n (b7 xs))(hn:n<=900000000) :
 Calls Tryz.prog 27 #[.slice B n c,.agg #[.string x.key,.int .u64 (x.seq:Int),.bool true,.string x.value]] w fun e Y=>∃A' c',e=.returned (.slice A' (n+(jz x).length) c')/\Mod Y w0 (ar 5 1 (.slice A' (n+(jz x).length) c') (n+(jz x).length) (b7 (xs++jz x))*S):=by
 obtain⟨key,seq,gone,value⟩:=x;simp only at hg ⊢;subst hg;obtain⟨hk,hv,hq⟩:=hx;simp only at hk hv hq;have ax:=cN (n:=key.size) oMg;have ay:=cN hq;have az:=cN (n:=value.size) oMg;have R0:=zbj r;obtain⟨U,ah⟩:∃U,n+(ca key.size).length+key.size=U:=⟨_,rfl⟩;obtain⟨b1,ae⟩:∃b1,xs++ca key.size++key.data.toList=b1:=⟨_,rfl⟩;obtain⟨O,ai⟩:∃O,U+(ca seq).length=O:=⟨_,rfl⟩;obtain⟨b2,af⟩:∃b2,b1++ca seq=b2:=⟨_,rfl⟩
 have au:Hid (∀(u:World)(G:ba),Mod u w0 G->bk G B n (b7 xs)->Calls Tryz.prog 65 #[.slice B n c,.string key] u fun e Y=>∃A' c',e=.returned (.slice A' U c')/\Mod Y w0 (ar 5 1 (.slice A' U c') U (b7 b1)*G)):=fun u G mu ru=>by
  have h:=j9 B n c xs key oMg u w0 G mu ru oMg;rw[ah,ae]at h;exact h
 have av:Hid (∀(A1:Option Addr)(c1:Nat)(u:World)(G:ba),Mod u w0 G->bk G A1 U (b7 b1)->Calls Tryz.prog 64 #[.slice A1 U c1,.int .u64 (seq:Int)] u fun e Y=>∃A' c',e=.returned (.slice A' O c')/\Mod Y w0 (ar 5 1 (.slice A' O c') O (b7 b2)*G)):=fun A1 c1 u G mu ru=>by
  have h:=kx A1 U c1 b1 seq hq u w0 G mu ru oMg;rw[ai,af]at h;exact h
 have aj:Hid (∀(u:World)(G:ba),Mod u w0 G->Calls Tryz.prog 66 #[.bool true] u fun e Y=>e=.returned (.int .u8 1)/\Mod Y w0 G):=fun u G mu=>(uE true u).mono fun e Y ⟨h1,h2⟩=>⟨h1,h2▸mu⟩
 have ag:Hid (O+1=n+(jz ⟨key,seq,true,value⟩).length):=by
  show _=_;unfold jz fk;simp only[Ze,List.length_cons,if_true,List.length_nil,vk];omega
 have ak:Hid (b7 b2++[.int .u8 1]=b7 (xs++jz ⟨key,seq,true,value⟩)):=by
  show _=_;rw[<-af,<-ae];unfold jz fk;simp[b7,sK]
 have hnb:O<=900002000:=oMg
 clear r ah ae ai af ax ay az;go_enter Tryz.func27,Tryz.ntmps27
 go_wp2_with fail
 refine eS 15 (fun u=>u.cell? ⟨w.heap.size,0,none⟩=some (.string key)/\u.cell? ⟨w.heap.size,1,none⟩=some (.int .u64 (seq:Int))/\u.cell? ⟨w.heap.size,2,none⟩=some (.bool true)) kRf ⟨Za,Za,Za⟩ (fun y=>?_);simp only[Zl,List.length_cons,List.length_nil,Nat.reduceAdd];obtain⟨W,hW⟩:∃W,W=(w.alloc (.cells #[.string key,.int .u64 (seq:Int),.bool true,.string value] 71)).drew:=⟨_,rfl⟩;have mW:Mod (w.alloc (.cells #[.string key,.int .u64 (seq:Int),.bool true,.string value] 71)).drew w0 _:=Mod.drew (m:=Mod.alloc (m:=m) _);rw[<-hW]at mW y ⊢;clear hW;refine cj 0 (some 5) (v:=?_) rfl rfl kRf (by decide) kRf kRf kRf (fun _ _ _ h=>h) (Or.inl ⟨by rfl,?_⟩) y ?_;rotate_left 1
 ·(intro u z;(try dsimp only at z);obtain⟨E,I,J⟩:=z;go_simp;try with_reducible rfl)
 simp only[Act.put,Zb,Zc,Zd];refine cj 1 (some 6) (v:=?_) rfl rfl kRf (by decide) kRf kRf kRf (fun _ _ _ h=>h) (Or.inl ⟨by rfl,?_⟩) y ?_;rotate_left 1
 ·(intro u z;(try dsimp only at z);obtain⟨E,I,J⟩:=z;go_simp;try with_reducible rfl)
 simp only[Act.put,Zb,Zc,Zd];refine cj 2 (some 7) (v:=?_) rfl rfl kRf (by decide) kRf kRf kRf (fun _ _ _ h=>h) (Or.inl ⟨by rfl,?_⟩) y ?_;rotate_left 1
 ·(intro u z;(try dsimp only at z);obtain⟨E,I,J⟩:=z;go_simp;try with_reducible rfl)
 simp only[Act.put,Zb,Zc,Zd];refine cj 3 (some 8) (v:=?_) rfl rfl kRf (by decide) kRf kRf kRf (fun _ _ _ h=>h) (Or.inl ⟨by rfl,?_⟩) y ?_;rotate_left 1
 ·(intro u z;(try dsimp only at z);obtain⟨E,I,J⟩:=z;go_simp;try with_reducible rfl)
 simp only[Act.put,Zb,Zc,Zd];refine cj 5 (some 10) (v:=?_) rfl rfl kRf (by decide) kRf kRf kRf (fun _ _ _ h=>h) (Or.inl ⟨by rfl,?_⟩) y ?_;rotate_left 1
 ·(intro u z;(try dsimp only at z);obtain⟨E,I,J⟩:=z;go_simp;try with_reducible rfl)
 simp only[Act.put,Zb,Zc,Zd];refine cj 6 (some 11) (v:=?_) rfl rfl kRf (by decide) kRf kRf kRf (fun _ _ _ h=>h) (Or.inl ⟨by rfl,?_⟩) y ?_;rotate_left 1
 ·(intro u z;(try dsimp only at z);obtain⟨E,I,J⟩:=z;go_simp;try with_reducible rfl)
 simp only[Act.put,Zb,Zc,Zd];refine cj 7 (some 12) (v:=?_) rfl rfl kRf (by decide) kRf kRf kRf (fun _ _ _ h=>h) (Or.inl ⟨by rfl,?_⟩) y ?_;rotate_left 1
 ·(intro u z;(try dsimp only at z);obtain⟨E,I,J⟩:=z;go_simp;try with_reducible rfl)
 simp only[Act.put,Zb,Zc,Zd];refine cj 9 (some 14) (v:=?_) rfl rfl kRf (by decide) kRf kRf kRf (fun _ _ _ h=>h) (Or.inl ⟨by rfl,?_⟩) y ?_;rotate_left 1
 ·(intro u z;(try dsimp only at z);obtain⟨E,I,J⟩:=z;go_simp;try with_reducible rfl)
 simp only[Act.put,Zb,Zc,Zd];refine cj 10 (some 15) (v:=?_) rfl rfl kRf (by decide) kRf kRf kRf (fun _ _ _ h=>h) (Or.inl ⟨by rfl,?_⟩) y ?_;rotate_left 1
 ·(intro u z;(try dsimp only at z);obtain⟨E,I,J⟩:=z;go_simp;try with_reducible rfl)
 simp only[Act.put,Zb,Zc,Zd];refine cj 11 (some 16) (v:=?_) rfl rfl kRf (by decide) kRf kRf kRf (fun _ _ _ h=>h) (Or.inl ⟨by rfl,?_⟩) y ?_;rotate_left 1
 ·(intro u z;(try dsimp only at z);obtain⟨E,I,J⟩:=z;go_simp;try with_reducible rfl)
 simp only[Act.put,Zb,Zc,Zd];refine aw (rs:=[4]) kRf (by simp) (am.cons (some 9) rfl rfl rfl (fun K M=>?_) am.nil)
 ·go_simp
  refine(au.out _ _ mW (ct zbk R0.out)).mono ?_;rintro e w1 ⟨A3,c4,rfl,m2⟩;refine M.out (.slice A3 U c4) _ ⟨Za,Za,Za⟩ (fun y=>?_);clear M K;simp only[Act.put,Zb,Zc,Zd];refine aw (rs:=[8]) kRf (by simp) (am.cons (some 13) rfl rfl rfl (fun K M=>?_) am.nil)
  ·go_simp
   refine(av.out A3 c4 _ _ m2 zbk).mono ?_;rintro e w5 ⟨A7,c8,rfl,m6⟩;refine M.out (.slice A7 O c8) _ ⟨Za,Za,Za⟩ (fun y=>?_);clear M K;simp only[Act.put,Zb,Zc,Zd];refine aw (rs:=[12]) kRf (by simp) (am.cons (some 17) rfl rfl rfl (fun K M=>?_) am.nil)
   ·go_simp
    refine(aj.out _ _ m6).mono ?_;rintro e w9 ⟨rfl,aB⟩;refine M.out (.int .u8 1) _ ⟨Za,Za,Za⟩ (fun y=>?_);clear M K;simp only[Act.put,Zb,Zc,Zd];refine aw (rs:=[13]) kRf (by simp) (am.cons (some 18) rfl rfl rfl (fun K M=>?_) am.nil)
    ·go_simp
     have aD:=(Mod.alloc (m:=aB) (.cells #[.int .u8 1] 5) (n:=w9.heap.size) (hn:=⟨rfl⟩));refine M.out (.slice (some ⟨w9.heap.size,0,none⟩) 1 1) _ ⟨Za,Za,Za⟩ (fun y=>?_);clear M K;simp only[Act.put,Zb,Zc,Zd];obtain⟨aG,V⟩:∃u,u=(w9.alloc (.cells #[.int .u8 1] 5)):=⟨_,rfl⟩;rw[<-V]at aD y ⊢;clear V;refine aw (rs:=[14]) kRf (by simp) (am.cons (some 19) rfl rfl rfl (fun K M=>?_) am.nil)
     ·refine cI (t:=67) (s:=.tmp 13) (x:=.tmp 18) rfl (zbk:Mod aG w0 _) (v:=.slice A7 O c8) (n:=O) rfl (A:=some ⟨w9.heap.size,0,none⟩) (k:=1) (c:=1) rfl (r:=ce rfl rfl) (by simp[Value.oneCell']) (by unfold maxLen;omega) oMg ?_
      intro Z aa aH aF;refine M.out (.slice Z (O+1) aa) _ ⟨Za,Za,Za⟩ (fun y=>?_);clear M K;simp only[Act.put,Zb,Zc,Zd];refine aw (rs:=[15]) kRf (by simp) (am.last (some 0) rfl rfl rfl (fun K M=>?_));go_simp
      refine M.out (.slice Z (O+1) aa) _ (fd kRf ?_);clear M K;simp only[Act.put,Zb,Zc];go_wp2_with fail
      go_ret
      exact⟨Z,aa,by rw[<-ag.out];rfl,by rw[<-ag.out,<-ak.out];exact Mod.keep aF⟩
theorem Mc (B:Option Addr)(n c:Nat)(xs:List UInt8)(x:ao)(hx:Fv x)(hg:x.gone=false)(w w0:World)(S:ba)(m:Mod w w0 S)(r:bk S B n (b7 xs))(hn:n<=900000000) :
 Calls Tryz.prog 27 #[.slice B n c,.agg #[.string x.key,.int .u64 (x.seq:Int),.bool false,.string x.value]] w fun e V=>∃A' c',e=.returned (.slice A' (n+(jz x).length) c')/\Mod V w0 (ar 5 1 (.slice A' (n+(jz x).length) c') (n+(jz x).length) (b7 (xs++jz x))*S):=by
 obtain⟨key,seq,gone,value⟩:=x;simp only at hg ⊢;subst hg;obtain⟨hk,hv,hq⟩:=hx;simp only at hk hv hq;have aG:=cN (n:=key.size) oMg;have aH:=cN hq;have aI:=cN (n:=value.size) oMg;have R0:=zbj r;obtain⟨U,aj⟩:∃U,n+(ca key.size).length+key.size=U:=⟨_,rfl⟩;obtain⟨b1,af⟩:∃b1,xs++ca key.size++key.data.toList=b1:=⟨_,rfl⟩;obtain⟨O,ak⟩:∃O,U+(ca seq).length=O:=⟨_,rfl⟩;obtain⟨Y,ag⟩:∃Y,b1++ca seq=Y:=⟨_,rfl⟩
 have az:Hid (∀(u:World)(G:ba),Mod u w0 G->bk G B n (b7 xs)->Calls Tryz.prog 65 #[.slice B n c,.string key] u fun e V=>∃A' c',e=.returned (.slice A' U c')/\Mod V w0 (ar 5 1 (.slice A' U c') U (b7 b1)*G)):=fun u G mu ru=>by
  have h:=j9 B n c xs key oMg u w0 G mu ru oMg;rw[aj,af]at h;exact h
 have aB:Hid (∀(A1:Option Addr)(c1:Nat)(u:World)(G:ba),Mod u w0 G->bk G A1 U (b7 b1)->Calls Tryz.prog 64 #[.slice A1 U c1,.int .u64 (seq:Int)] u fun e V=>∃A' c',e=.returned (.slice A' O c')/\Mod V w0 (ar 5 1 (.slice A' O c') O (b7 Y)*G)):=fun A1 c1 u G mu ru=>by
  have h:=kx A1 U c1 b1 seq hq u w0 G mu ru oMg;rw[ak,ag]at h;exact h
 have ax:Hid (∀(u:World)(G:ba),Mod u w0 G->Calls Tryz.prog 66 #[.bool false] u fun e V=>e=.returned (.int .u8 0)/\Mod V w0 G):=fun u G mu=>(uE false u).mono fun e V ⟨h1,h2⟩=>⟨h1,h2▸mu⟩;obtain⟨n3,au⟩:∃n3,O+1+(ca value.size).length+value.size=n3:=⟨_,rfl⟩;obtain⟨b3,ah⟩:∃b3,Y++[0]++ca value.size++value.data.toList=b3:=⟨_,rfl⟩
 have aD:Hid (∀(A1:Option Addr)(c1:Nat)(u:World)(G:ba),Mod u w0 G->bk G A1 (O+1) (b7 Y++[.int .u8 0])->Calls Tryz.prog 65 #[.slice A1 (O+1) c1,.string value] u fun e V=>∃A' c',e=.returned (.slice A' n3 c')/\Mod V w0 (ar 5 1 (.slice A' n3 c') n3 (b7 b3)*G)):=fun A1 c1 u G mu ru=>by
  have e0:b7 Y++[.int .u8 0]=b7 (Y++[0]):=by simp[b7]
  rw[e0]at ru;have h:=j9 A1 (O+1) c1 (Y++[0]) value oMg u w0 G mu ru oMg;rw[au,ah]at h;exact h
 have ai:Hid (n3=n+(jz ⟨key,seq,false,value⟩).length):=by
  show _=_;unfold jz fk;simp only[Ze,List.length_cons,YH,if_false,vk];omega
 have ay:Hid (b7 b3=b7 (xs++jz ⟨key,seq,false,value⟩)):=by
  show _=_;rw[<-ah,<-ag,<-af];unfold jz fk;simp[sK]
 have hnb:O<=900002000:=oMg
 clear r aj af ak ag aG aH aI au ah;go_enter Tryz.func27,Tryz.ntmps27
 go_wp2_with fail
 refine eS 15 (fun u=>u.cell? ⟨w.heap.size,0,none⟩=some (.string key)/\u.cell? ⟨w.heap.size,1,none⟩=some (.int .u64 (seq:Int))/\u.cell? ⟨w.heap.size,2,none⟩=some (.bool false)) kRf ⟨Za,Za,Za⟩ (fun y=>?_);simp only[Zl,List.length_cons,List.length_nil,Nat.reduceAdd];obtain⟨W,hW⟩:∃W,W=(w.alloc (.cells #[.string key,.int .u64 (seq:Int),.bool false,.string value] 71)).drew:=⟨_,rfl⟩;have mW:Mod (w.alloc (.cells #[.string key,.int .u64 (seq:Int),.bool false,.string value] 71)).drew w0 _:=Mod.drew (m:=Mod.alloc (m:=m) _);rw[<-hW]at mW y ⊢;clear hW;refine cj 0 (some 5) (v:=?_) rfl rfl kRf (by decide) kRf kRf kRf (fun _ _ _ h=>h) (Or.inl ⟨by rfl,?_⟩) y ?_;rotate_left 1
 ·(intro u z;(try dsimp only at z);obtain⟨E,I,J⟩:=z;go_simp;try with_reducible rfl)
 simp only[Act.put,Zb,Zc,Zd];refine cj 1 (some 6) (v:=?_) rfl rfl kRf (by decide) kRf kRf kRf (fun _ _ _ h=>h) (Or.inl ⟨by rfl,?_⟩) y ?_;rotate_left 1
 ·(intro u z;(try dsimp only at z);obtain⟨E,I,J⟩:=z;go_simp;try with_reducible rfl)
 simp only[Act.put,Zb,Zc,Zd];refine cj 2 (some 7) (v:=?_) rfl rfl kRf (by decide) kRf kRf kRf (fun _ _ _ h=>h) (Or.inl ⟨by rfl,?_⟩) y ?_;rotate_left 1
 ·(intro u z;(try dsimp only at z);obtain⟨E,I,J⟩:=z;go_simp;try with_reducible rfl)
 simp only[Act.put,Zb,Zc,Zd];refine cj 3 (some 8) (v:=?_) rfl rfl kRf (by decide) kRf kRf kRf (fun _ _ _ h=>h) (Or.inl ⟨by rfl,?_⟩) y ?_;rotate_left 1
 ·(intro u z;(try dsimp only at z);obtain⟨E,I,J⟩:=z;go_simp;try with_reducible rfl)
 simp only[Act.put,Zb,Zc,Zd];refine cj 5 (some 10) (v:=?_) rfl rfl kRf (by decide) kRf kRf kRf (fun _ _ _ h=>h) (Or.inl ⟨by rfl,?_⟩) y ?_;rotate_left 1
 ·(intro u z;(try dsimp only at z);obtain⟨E,I,J⟩:=z;go_simp;try with_reducible rfl)
 simp only[Act.put,Zb,Zc,Zd];refine cj 6 (some 11) (v:=?_) rfl rfl kRf (by decide) kRf kRf kRf (fun _ _ _ h=>h) (Or.inl ⟨by rfl,?_⟩) y ?_;rotate_left 1
 ·(intro u z;(try dsimp only at z);obtain⟨E,I,J⟩:=z;go_simp;try with_reducible rfl)
 simp only[Act.put,Zb,Zc,Zd];refine cj 7 (some 12) (v:=?_) rfl rfl kRf (by decide) kRf kRf kRf (fun _ _ _ h=>h) (Or.inl ⟨by rfl,?_⟩) y ?_;rotate_left 1
 ·(intro u z;(try dsimp only at z);obtain⟨E,I,J⟩:=z;go_simp;try with_reducible rfl)
 simp only[Act.put,Zb,Zc,Zd];refine cj 9 (some 14) (v:=?_) rfl rfl kRf (by decide) kRf kRf kRf (fun _ _ _ h=>h) (Or.inl ⟨by rfl,?_⟩) y ?_;rotate_left 1
 ·(intro u z;(try dsimp only at z);obtain⟨E,I,J⟩:=z;go_simp;try with_reducible rfl)
 simp only[Act.put,Zb,Zc,Zd];refine cj 10 (some 15) (v:=?_) rfl rfl kRf (by decide) kRf kRf kRf (fun _ _ _ h=>h) (Or.inl ⟨by rfl,?_⟩) y ?_;rotate_left 1
 ·(intro u z;(try dsimp only at z);obtain⟨E,I,J⟩:=z;go_simp;try with_reducible rfl)
 simp only[Act.put,Zb,Zc,Zd];refine cj 11 (some 16) (v:=?_) rfl rfl kRf (by decide) kRf kRf kRf (fun _ _ _ h=>h) (Or.inl ⟨by rfl,?_⟩) y ?_;rotate_left 1
 ·(intro u z;(try dsimp only at z);obtain⟨E,I,J⟩:=z;go_simp;try with_reducible rfl)
 simp only[Act.put,Zb,Zc,Zd];refine aw (rs:=[4]) kRf (by simp) (am.cons (some 9) rfl rfl rfl (fun K M=>?_) am.nil)
 ·go_simp
  refine(az.out _ _ mW (ct zbk R0.out)).mono ?_;rintro e w1 ⟨A3,c4,rfl,m2⟩;refine M.out (.slice A3 U c4) _ ⟨Za,Za,Za⟩ (fun y=>?_);clear M K;simp only[Act.put,Zb,Zc,Zd];refine aw (rs:=[8]) kRf (by simp) (am.cons (some 13) rfl rfl rfl (fun K M=>?_) am.nil)
  ·go_simp
   refine(aB.out A3 c4 _ _ m2 zbk).mono ?_;rintro e w5 ⟨A7,c8,rfl,m6⟩;refine M.out (.slice A7 O c8) _ ⟨Za,Za,Za⟩ (fun y=>?_);clear M K;simp only[Act.put,Zb,Zc,Zd];refine aw (rs:=[12]) kRf (by simp) (am.cons (some 17) rfl rfl rfl (fun K M=>?_) am.nil)
   ·go_simp
    refine(ax.out _ _ m6).mono ?_;rintro e w9 ⟨rfl,aJ⟩;refine M.out (.int .u8 0) _ ⟨Za,Za,Za⟩ (fun y=>?_);clear M K;simp only[Act.put,Zb,Zc,Zd];refine aw (rs:=[13]) kRf (by simp) (am.cons (some 18) rfl rfl rfl (fun K M=>?_) am.nil)
    ·go_simp
     have aK:=(Mod.alloc (m:=aJ) (.cells #[.int .u8 0] 5) (n:=w9.heap.size) (hn:=⟨rfl⟩));refine M.out (.slice (some ⟨w9.heap.size,0,none⟩) 1 1) _ ⟨Za,Za,Za⟩ (fun y=>?_);clear M K;simp only[Act.put,Zb,Zc,Zd];obtain⟨aN,Z⟩:∃u,u=(w9.alloc (.cells #[.int .u8 0] 5)):=⟨_,rfl⟩;rw[<-Z]at aK y ⊢;clear Z;refine aw (rs:=[14]) kRf (by simp) (am.cons (some 19) rfl rfl rfl (fun K M=>?_) am.nil)
     ·refine cI (t:=67) (s:=.tmp 13) (x:=.tmp 18) rfl (zbk:Mod aN w0 _) (v:=.slice A7 O c8) (n:=O) rfl (A:=some ⟨w9.heap.size,0,none⟩) (k:=1) (c:=1) rfl (r:=ce rfl rfl) (by simp[Value.oneCell']) (by unfold maxLen;omega) oMg ?_
      intro aa ae aO aL;refine M.out (.slice aa (O+1) ae) _ ⟨Za,Za,Za⟩ (fun y=>?_);clear M K;simp only[Act.put,Zb,Zc,Zd];refine aw (rs:=[15]) kRf (by simp) (am.last (some 0) rfl rfl rfl (fun K M=>?_));go_simp
      refine M.out (.slice aa (O+1) ae) _ (fd kRf ?_);clear M K;simp only[Act.put,Zb,Zc];go_wp2_with (go_at_call 65;refine(aD.out aa ae _ _ aL zbk).mono ?_;rintro e aP ⟨av,aF,rfl,aM⟩)
      go_ret
      exact⟨av,aF,by rw[<-ai.out];rfl,by rw[<-ai.out,<-ay.out];exact Mod.keep aM⟩
theorem wR (B:Option Addr)(n c:Nat)(xs:List UInt8)(x:ao)(hx:Fv x)(w w0:World)(S:ba)(m:Mod w w0 S)(r:bk S B n (b7 xs))(hn:n<=900000000) :
 Calls Tryz.prog 27 #[.slice B n c,.agg #[.string x.key,.int .u64 (x.seq:Int),.bool x.gone,.string x.value]] w fun e y=>∃A' c',e=.returned (.slice A' (n+(jz x).length) c')/\Mod y w0 (ar 5 1 (.slice A' (n+(jz x).length) c') (n+(jz x).length) (b7 (xs++jz x))*S):=by
 cases hg:x.gone with
 | true=>exact Kd B n c xs x hx hg w w0 S m r hn
 | false=>exact Mc B n c xs x hx hg w w0 S m r hn
theorem DC {a:ByteArray}{k:Nat}(h:k<a.size):a.toList[k]?=some a[k]:=by
 rw[ByteArray.toList_eq];simp[ByteArray.getElem_eq_getElem_data]
theorem CM (a b:ByteArray)(ha:a.size<=1000000)(_hb:b.size<=1000000)(w w0:World)(S:ba)(m:Mod w w0 S):Calls Tryz.prog 233 #[.string a,.string b] w fun e w'=>e=.returned (.int .i64 (hO a.toList b.toList:Int))/\Mod w' w0 S:=by
 obtain⟨z,Z⟩:∃z,hO a.toList b.toList=z:=⟨_,rfl⟩;rw[Z];have Hz:=zbj Z;clear Z;obtain⟨y,Y⟩:∃y,min a.size b.size=y:=⟨_,rfl⟩;have ah:min (a.size:Int) (b.size:Int)=(y:Int):=oMg
 have J:y<=a.size:=oMg
 have K:y<=b.size:=oMg
 have h3:y=a.size\/y=b.size:=oMg
 have H3:=zbj h3;clear Y h3;go_enter Tryz.func233,Tryz.ntmps233
 go_wp2_with fail
 go_loopg [4] y (fun gk v4 wr=>∃k:Nat,k<=y/\gk=y-k/\v4=.int .i64 (k:Int)/\Hid (∀j,j<k->∃c,a.toList[j]?=some c/\b.toList[j]?=some c)/\Mod wr w0 S)
 case atStart=>exact⟨0,Zv _,rfl,rfl,(fun j hj=>by omega),m⟩
 case round =>
  obtain⟨k,hk,aa,rfl,B,m1⟩:=hrel;by_cases V:k<y
  ·have O:(k:Int)<(y:Int):=oMg
   have af:(k:Int)<(a.size:Int):=oMg
   have ag:(k:Int)<(b.size:Int):=oMg
   have ae:(0:Int)<=(k:Int):=oMg
   have ga:=DC (a:=a) (k:=k) oMg;have gb:=DC (a:=b) (k:=k) oMg;have Ga:=zbj ga;have Gb:=zbj gb;clear ga gb;by_cases M:a[k]' oMg=b[k]' oMg
   ·have hq:(((a[k]' oMg).toNat:Int)==((b[k]' oMg).toNat:Int))=true:=by rw[M];simp
    have I:Hid (∀j,j<k+1->∃c,a.toList[j]?=some c/\b.toList[j]?=some c):=fun j hj=>by
     by_cases e:j=k
     ·subst e;exact⟨_,Ga.out,by rw[Gb.out,M]⟩
     ·exact B.out j oMg
    clear M;go_wp2_with fail
    go_quiet (fail)
    go_wp2_with fail
    go_roundg (y-(k+1))
    case measure=>omega
    case rel=>exact⟨k+1,V,rfl,by go_num,I,Mod.drewN (m:=m1) _⟩
   ·have hq:(((a[k]' oMg).toNat:Int)==((b[k]' oMg).toNat:Int))=false:=beq_eq_false_iff_ne.2 fun e=>M (UInt8.toNat_inj.1 oMg)
    have E:Hid (z=k):=by
     show _=_;rw[<-Hz.out];exact wm B.out fun c J K=>M (by rw[Ga.out]at J;rw[Gb.out]at K;injection J with J;injection K with K;rw[J,K])
    clear M;go_wp2_with fail
    go_quiet (fail)
    go_wp2_with fail
    go_ret
    exact⟨by rw[E.out];rfl,Mod.drewN (m:=m1) _⟩
  ·have O:¬(k:Int)<(y:Int):=oMg
   have U:k=y:=oMg
   have E:Hid (z=k):=by
    show _=_;rw[<-Hz.out];refine wm B.out fun c J K=>?_;have l1:a.toList.length=a.size:=by rw[ByteArray.toList_eq,Array.length_toList];rfl
    have l2:b.toList.length=b.size:=by rw[ByteArray.toList_eq,Array.length_toList];rfl
    have q1:=(Yd.1 J).1;have q2:=(Yd.1 K).1;have:=H3.out;omega
   clear U;go_wp2_with fail
   go_quiet (fail)
   go_wp2_with fail
   go_ret
   exact⟨by rw[E.out];rfl,Mod.drewN (m:=m1) _⟩
theorem tO (y:Option Addr)(k c:Nat)(xs:List UInt8)(v:Nat)(M:v<65536)(K:k<=100000000)(w w0:World)(F:ba)(m:Mod w w0 (ar 5 1 (.slice y k c) k (b7 xs)*F)) :
 Calls Tryz.prog 236 #[.slice y k c,.int .i64 (v:Int)] w fun e J=>∃A' c',e=.returned (.slice A' (k+2) c')/\Mod J w0 (ar 5 1 (.slice A' (k+2) c') (k+2) (b7 (xs++sj v))*F):=by
 have z:b7 (sj v)=[.int .u8 (((v:Int) / 256)),.int .u8 (((v:Int)%256))]:=by
  simp[b7,sj];omega
 have B:=zbj z;clear z;go_enter Tryz.func236,Tryz.ntmps236
 go_wp2_with (at_builtin;refine cS (v:=.slice y k c) (A:=some ⟨w.heap.size,0,none⟩) (k:=2) (c:=2) (news:=[.int .u8 (((v:Int) / 256)),.int .u8 (((v:Int)%256))]) (r:=ce rfl rfl) rfl rfl zbk rfl rfl (by simp[Value.oneCell']) (by unfold maxLen;omega) oMg ?_;intro A2 E O I)
 go_ret
 refine⟨A2,E,rfl,?_⟩;rw[eC,B.out];exact Mod.keep I
end Go.Proofs.YtdfppjcaelghhaaGreatDoor
namespace Go.Sl
open Go
structure sk (l:List ao):Prop where
 ne:0<l.length
 few:l.length<=64
 ok:∀x∈l,fS x
 rise:fc l
end Go.Sl
namespace Go.Proofs.YtdfppjcaelghhaaGreatDoor
open Go.RowKit Go.Sl
attribute [local go_sem] ab bj bh bd
theorem M3 (I pl:Nat)(x:ao)(hx:fS x)(hg:x.gone=true)(w w0:World)(F:ba)(m:Mod w w0 (aE I (.cells #[.bool true] 4 (0,0))*(F))) :
 Calls Tryz.prog 274 #[.int .i64 0,.agg #[.string x.key,.int .u64 (x.seq:Int),.bool true,.string x.value],ap I,ap pl] w fun e J=>e=.returned (.tuple #[])/\Mod J w0 (aE I (.cells #[.bool true] 4 (0,0))*(F)):=by
 have O:Hid (∀(u:World)(G:ba),Mod u w0 G->Calls Tryz.prog 62 #[.string x.key] u fun e J=>e=.returned (.bool true)/\Mod J w0 G):=fun u G Z=>by
  have h:=fi x.key u w0 G Z;rw[hx.key]at h;exact h
 have hv:(x.value.size:Int)<=256:=by have:=hx.value;omega
 have Y:x.value.toList=[]:=by
  rw[ByteArray.toList_eq];exact Zo (by rw[Array.length_toList];exact hx.gone hg)
 clear hx hg;go_enter Tryz.func274,Tryz.ntmps274
 go_wp2_with fail
 obtain⟨E,y,z⟩:∃E,E=_/\Mod (w.alloc (.cells #[.string x.key,.int .u64 (x.seq:Int),.bool true,.string x.value] 71)) w0 E:=⟨_,rfl,Mod.alloc (m:=m) _⟩;have U:jq E I (.cells #[.bool true] 4 (0,0)):=by rw[y];infer_instance
 have V:jq E w.heap.size (.cells #[.string x.key,.int .u64 (x.seq:Int),.bool true,.string x.value] 71 (0,0)):=by rw[y];infer_instance
 have B:=zbj y;clear y;have:=jO.some z;refine dv 40 z kRf kRf ?_;simp only[List.take_succ_cons,List.take_zero,ZY,Z6]
 repeat (go_big_quiet_step ((go_at_call 62;refine cW (O.out _ _ ?_);exact zbk)))
 refine wpQuiet_nil ?_;rintro M ⟨s,rfl⟩;have m3:=Mod.to (m:=s.mod) B.out;clear z B this U V;generalize s.world=M at *;go_wp2_with fail
 go_end0
 have K:Mod (M.setCell ⟨I,0,none⟩ (.bool true)) w0 _:=zbk;simp only[Zb,Zc]at K;exact⟨rfl,Mod.keep K⟩
theorem M4 (K pl:Nat)(x:ao)(hx:fS x)(hg:x.gone=true)(q:Nat)(y:ao)(A:Option Addr)(n c:Nat)(b o:Nat)(hA:A=some ⟨b,o,none⟩)(hq:q<n)(af:q<=1000)(J:kF y x)(w w0:World)(F:ba)(m:Mod w w0 (aE K (.cells #[.bool true] 4 (0,0))*(aE pl (.cells #[.slice A n c] 59 (0,0))*F)))(Z:bw F b (o+q*4) (.string y.key)/\bw F b (o+q*4+1) (.int .u64 (y.seq:Int))/\bw F b (o+q*4+2) (.bool y.gone)) :
 Calls Tryz.prog 274 #[.int .i64 ((q:Int)+1),.agg #[.string x.key,.int .u64 (x.seq:Int),.bool true,.string x.value],ap K,ap pl] w fun e M=>e=.returned (.tuple #[])/\Mod M w0 (aE K (.cells #[.bool true] 4 (0,0))*(aE pl (.cells #[.slice A n c] 59 (0,0))*F)):=by
 subst hA;obtain⟨O,U,V⟩:=Z;have ag:(q:Int)<(n:Int):=oMg
 have e1:(q:Int)+1-1=(q:Int):=oMg
 have ae:((q:Int)+1==0)=false:=beq_eq_false_iff_ne.2 oMg;have aa:oh y x<0:=(qW y x).2 J
 have HC:Hid (∀(u:World)(G:ba),Mod u w0 G->Calls Tryz.prog 129 #[.agg #[.string y.key,.int .u64 (y.seq:Int),.bool y.gone],.agg #[.string x.key,.int .u64 (x.seq:Int),.bool true]] u fun e M=>e=.returned (.int .i64 (oh y x))/\Mod M w0 G):=fun u G Y=>by
  have h:=nN y x u w0 G Y;rw[hg]at h;exact h
 generalize oh y x=Z at *
 have HK:Hid (∀(u:World)(G:ba),Mod u w0 G->Calls Tryz.prog 62 #[.string x.key] u fun e M=>e=.returned (.bool true)/\Mod M w0 G):=fun u G Y=>by
  have h:=fi x.key u w0 G Y;rw[hx.key]at h;exact h
 have hv:(x.value.size:Int)<=256:=by have:=hx.value;omega
 have ah:x.value.toList=[]:=by
  rw[ByteArray.toList_eq];exact Zo (by rw[Array.length_toList];exact hx.gone hg)
 clear hx hg J;go_enter Tryz.func274,Tryz.ntmps274
 go_wp2_with fail
 obtain⟨B,z,E⟩:∃B,B=_/\Mod (w.alloc (.cells #[.string x.key,.int .u64 (x.seq:Int),.bool true,.string x.value] 71)) w0 B:=⟨_,rfl,Mod.alloc (m:=m) _⟩;have h1:jq B K (.cells #[.bool true] 4 (0,0)):=by rw[z];infer_instance
 have h2:jq B w.heap.size (.cells #[.string x.key,.int .u64 (x.seq:Int),.bool true,.string x.value] 71 (0,0)):=by rw[z];infer_instance
 have h3:jq B pl (.cells #[.slice (some ⟨b,o,none⟩) n c] 59 (0,0)):=by rw[z];infer_instance
 have O:bw B b (o+q*4) (.string y.key):=by rw[z];infer_instance
 have U:bw B b (o+q*4+1) (.int .u64 (y.seq:Int)):=by rw[z];infer_instance
 have V:bw B b (o+q*4+2) (.bool y.gone):=by rw[z];infer_instance
 have I:=zbj z;clear z;have:=jO.some E;refine dv 40 E kRf kRf ?_;simp only[List.take_succ_cons,List.take_zero,ZY,Z6]
 repeat (go_big_quiet_step (first | (go_at_call 62;refine cW (HK.out _ _ ?_);exact zbk) | (go_at_call 129;refine cW (HC.out _ _ ?_);exact zbk)))
 refine wpQuiet_nil ?_;rintro w3 ⟨s,rfl⟩;have m3:=Mod.to (m:=s.mod) I.out;clear E I this h1 h2;generalize s.world=w3 at *;go_wp2_with fail
 go_end0
 have m4:Mod (w3.setCell ⟨K,0,none⟩ (.bool true)) w0 _:=zbk;simp only[Zb,Zc]at m4;exact⟨rfl,Mod.keep m4⟩
theorem QI (I pl:Nat)(x:ao)(hx:fS x)(_hg:x.gone=false)(w w0:World)(F:ba)(m:Mod w w0 (aE I (.cells #[.bool true] 4 (0,0))*(F))) :
 Calls Tryz.prog 274 #[.int .i64 0,.agg #[.string x.key,.int .u64 (x.seq:Int),.bool false,.string x.value],ap I,ap pl] w fun e J=>e=.returned (.tuple #[])/\Mod J w0 (aE I (.cells #[.bool true] 4 (0,0))*(F)):=by
 have O:Hid (∀(u:World)(G:ba),Mod u w0 G->Calls Tryz.prog 62 #[.string x.key] u fun e J=>e=.returned (.bool true)/\Mod J w0 G):=fun u G Y=>by
  have h:=fi x.key u w0 G Y;rw[hx.key]at h;exact h
 have Z:(x.value.size:Int)<=256:=by have:=hx.value;omega
 clear hx;go_enter Tryz.func274,Tryz.ntmps274
 go_wp2_with fail
 obtain⟨E,y,z⟩:∃E,E=_/\Mod (w.alloc (.cells #[.string x.key,.int .u64 (x.seq:Int),.bool false,.string x.value] 71)) w0 E:=⟨_,rfl,Mod.alloc (m:=m) _⟩;have U:jq E I (.cells #[.bool true] 4 (0,0)):=by rw[y];infer_instance
 have V:jq E w.heap.size (.cells #[.string x.key,.int .u64 (x.seq:Int),.bool false,.string x.value] 71 (0,0)):=by rw[y];infer_instance
 have B:=zbj y;clear y;have:=jO.some z;refine dv 40 z kRf kRf ?_;simp only[List.take_succ_cons,List.take_zero,ZY,Z6]
 repeat (go_big_quiet_step ((go_at_call 62;refine cW (O.out _ _ ?_);exact zbk)))
 refine wpQuiet_nil ?_;rintro M ⟨s,rfl⟩;have m3:=Mod.to (m:=s.mod) B.out;clear z B this U V;generalize s.world=M at *;go_wp2_with fail
 go_end0
 have K:Mod (M.setCell ⟨I,0,none⟩ (.bool true)) w0 _:=zbk;simp only[Zb,Zc]at K;exact⟨rfl,Mod.keep K⟩
theorem M6 (K pl:Nat)(x:ao)(hx:fS x)(hg:x.gone=false)(q:Nat)(y:ao)(A:Option Addr)(n c:Nat)(b o:Nat)(hA:A=some ⟨b,o,none⟩)(hq:q<n)(af:q<=1000)(J:kF y x)(w w0:World)(F:ba)(m:Mod w w0 (aE K (.cells #[.bool true] 4 (0,0))*(aE pl (.cells #[.slice A n c] 59 (0,0))*F)))(Z:bw F b (o+q*4) (.string y.key)/\bw F b (o+q*4+1) (.int .u64 (y.seq:Int))/\bw F b (o+q*4+2) (.bool y.gone)) :
 Calls Tryz.prog 274 #[.int .i64 ((q:Int)+1),.agg #[.string x.key,.int .u64 (x.seq:Int),.bool false,.string x.value],ap K,ap pl] w fun e M=>e=.returned (.tuple #[])/\Mod M w0 (aE K (.cells #[.bool true] 4 (0,0))*(aE pl (.cells #[.slice A n c] 59 (0,0))*F)):=by
 subst hA;obtain⟨O,U,V⟩:=Z;have ag:(q:Int)<(n:Int):=oMg
 have e1:(q:Int)+1-1=(q:Int):=oMg
 have ae:((q:Int)+1==0)=false:=beq_eq_false_iff_ne.2 oMg;have aa:oh y x<0:=(qW y x).2 J
 have HC:Hid (∀(u:World)(G:ba),Mod u w0 G->Calls Tryz.prog 129 #[.agg #[.string y.key,.int .u64 (y.seq:Int),.bool y.gone],.agg #[.string x.key,.int .u64 (x.seq:Int),.bool false]] u fun e M=>e=.returned (.int .i64 (oh y x))/\Mod M w0 G):=fun u G Y=>by
  have h:=nN y x u w0 G Y;rw[hg]at h;exact h
 generalize oh y x=Z at *
 have HK:Hid (∀(u:World)(G:ba),Mod u w0 G->Calls Tryz.prog 62 #[.string x.key] u fun e M=>e=.returned (.bool true)/\Mod M w0 G):=fun u G Y=>by
  have h:=fi x.key u w0 G Y;rw[hx.key]at h;exact h
 have hv:(x.value.size:Int)<=256:=by have:=hx.value;omega
 clear hx hg J;go_enter Tryz.func274,Tryz.ntmps274
 go_wp2_with fail
 obtain⟨B,z,E⟩:∃B,B=_/\Mod (w.alloc (.cells #[.string x.key,.int .u64 (x.seq:Int),.bool false,.string x.value] 71)) w0 B:=⟨_,rfl,Mod.alloc (m:=m) _⟩;have h1:jq B K (.cells #[.bool true] 4 (0,0)):=by rw[z];infer_instance
 have h2:jq B w.heap.size (.cells #[.string x.key,.int .u64 (x.seq:Int),.bool false,.string x.value] 71 (0,0)):=by rw[z];infer_instance
 have h3:jq B pl (.cells #[.slice (some ⟨b,o,none⟩) n c] 59 (0,0)):=by rw[z];infer_instance
 have O:bw B b (o+q*4) (.string y.key):=by rw[z];infer_instance
 have U:bw B b (o+q*4+1) (.int .u64 (y.seq:Int)):=by rw[z];infer_instance
 have V:bw B b (o+q*4+2) (.bool y.gone):=by rw[z];infer_instance
 have I:=zbj z;clear z;have:=jO.some E;refine dv 40 E kRf kRf ?_;simp only[List.take_succ_cons,List.take_zero,ZY,Z6]
 repeat (go_big_quiet_step (first | (go_at_call 62;refine cW (HK.out _ _ ?_);exact zbk) | (go_at_call 129;refine cW (HC.out _ _ ?_);exact zbk)))
 refine wpQuiet_nil ?_;rintro w3 ⟨s,rfl⟩;have m3:=Mod.to (m:=s.mod) I.out;clear E I this h1 h2;generalize s.world=w3 at *;go_wp2_with fail
 go_end0
 have m4:Mod (w3.setCell ⟨K,0,none⟩ (.bool true)) w0 _:=zbk;simp only[Zb,Zc]at m4;exact⟨rfl,Mod.keep m4⟩
theorem J3 (y pl k n c:Nat)(A:Option Addr)(l:List ao)(E:sk l)(I:k<l.length)(w w0:World)(S:ba)(m:Mod w w0 (aE y (.cells #[.bool true] 4 (0,0))*(aE pl (.cells #[.slice A n c] 59 (0,0))*S)))(r:bp S A n l) :
 Calls Tryz.prog 274 #[.int .i64 (k:Int),.agg #[.string l[k].key,.int .u64 (l[k].seq:Int),.bool l[k].gone,.string l[k].value],ap y,ap pl] w fun e M=>e=.returned (.tuple #[])/\Mod M w0 (aE y (.cells #[.bool true] 4 (0,0))*(aE pl (.cells #[.slice A n c] 59 (0,0))*S)):=by
 have hx:=E.ok _ (Zq I)
 cases k with
 | zero =>
   cases hg:l[0].gone with
   | true=>exact M3 y pl l[0] hx hg w w0 _ m
   | false=>exact QI y pl l[0] hx hg w w0 _ m
 | succ q =>
   have B:=Z0.1 E.rise q (q+1) oMg I oMg;obtain⟨b,o,rfl⟩:=gw m (r.lift zbk) (k:=q) (by have:=r.len;omega);have J:q<l.length:=by have:=I;omega
   have z:=jc r (k:=q) J;have K:((q+1:Nat):Int)=(q:Int)+1:=oMg
   rw[K]
   cases hg:l[q+1].gone with
   | true=>exact M4 y pl l[q+1] hx hg q l[q] (some ⟨b,o,none⟩) n c b o rfl (by have:=r.len;omega) (by have:=E.few;omega) B w w0 S m ⟨z.1,z.2.1,z.2.2.1⟩
   | false=>exact M6 y pl l[q+1] hx hg q l[q] (some ⟨b,o,none⟩) n c b o rfl (by have:=r.len;omega) (by have:=E.few;omega) B w w0 S m ⟨z.1,z.2.1,z.2.2.1⟩
theorem CU (z pl n c:Nat)(A:Option Addr)(l:List ao)(J:sk l)(w w0:World)(S:ba)(m:Mod w w0 (aE z (.cells #[.bool true] 4 (0,0))*(aE pl (.cells #[.slice A n c] 59 (0,0))*S)))(r:bp S A n l) :
 Calls Tryz.prog 231 #[.slice A n c,.func (.func 274) #[] #[ap z,ap pl]] w fun e M=>e=.returned (.tuple #[])/\Mod M w0 (aE z (.cells #[.bool true] 4 (0,0))*(aE pl (.cells #[.slice A n c] 59 (0,0))*S)):=by
 have R:=zbj r;have U:=zbj J;have hnb:n<=1000:=by have:=J.few;have:=r.len;omega
 clear r J;go_enter Tryz.func231,Tryz.ntmps231
 go_wp2_with fail
 go_loopg [8] n (fun gk vi wr=>∃i:Nat,i<=n/\gk=n-i/\vi=.int .i64 (i:Int)/\Mod wr w0 (aE z (.cells #[.bool true] 4 (0,0))*(aE pl (.cells #[.slice A n c] 59 (0,0))*S)))
 case atStart=>exact⟨0,Zv _,rfl,rfl,m⟩
 case round =>
  obtain⟨i,hi,V,rfl,K⟩:=hrel;by_cases E:i<n
  ·have I:(i:Int)<(n:Int):=oMg
   have B:i<l.length:=by rw[R.out.len];exact E
   obtain⟨b,o,rfl⟩:=gw K (R.out.lift zbk) E;obtain⟨x0,x1,x2,x3⟩:=jc R.out B;have O:Hid (∀(u:World)(G:ba),Sub G S->Mod u w0 (aE z (.cells #[.bool true] 4 (0,0))*(aE pl (.cells #[.slice (some ⟨b,o,none⟩) n c] 59 (0,0))*G))->Calls Tryz.prog 274 #[.int .i64 (i:Int),.agg #[.string l[i].key,.int .u64 (l[i].seq:Int),.bool l[i].gone,.string l[i].value],ap z,ap pl] u fun e M=>e=.returned (.tuple #[])/\Mod M w0 (aE z (.cells #[.bool true] 4 (0,0))*(aE pl (.cells #[.slice (some ⟨b,o,none⟩) n c] 59 (0,0))*G))):=fun u G Y mu=>J3 z pl i n c (some ⟨b,o,none⟩) l U.out B u w0 G mu (R.out.lift Y);generalize l[i]=y at *;clear B;go_wp2_with (go_at_call 274;refine(O.out _ (aE wr.heap.size (.cells #[.string y.key,.int .u64 (y.seq:Int),.bool y.gone,.string y.value] 71 (0,0))*S) zbk (Mod.to (m:=Mod.alloc (m:=K) _) (by ac_rfl))).mono ?_;rintro e w3 ⟨rfl,Z⟩)
   go_roundg (n-(i+1))
   case measure=>omega
   case rel=>exact⟨i+1,E,rfl,by go_num,Mod.keep Z⟩
  ·have I:¬(i:Int)<(n:Int):=oMg
   go_wp2_with fail
   go_end0
   exact⟨rfl,K⟩
theorem Fz (n c:Nat)(A:Option Addr)(l:List ao)(z:sk l)(w w0:World)(S:ba)(m:Mod w w0 S)(r:bp S A n l) :
 Calls Tryz.prog 230 #[.slice A n c] w fun e B=>e=.returned (.bool true)/\Mod B w0 S:=by
 have E:Hid (∀(y pl:Nat)(u:World)(G:ba),Sub G S->Mod u w0 (aE y (.cells #[.bool true] 4 (0,0))*(aE pl (.cells #[.slice A n c] 59 (0,0))*G))->Calls Tryz.prog 231 #[.slice A n c,.func (.func 274) #[] #[ap y,ap pl]] u fun e B=>e=.returned (.tuple #[])/\Mod B w0 (aE y (.cells #[.bool true] 4 (0,0))*(aE pl (.cells #[.slice A n c] 59 (0,0))*G))):=fun y pl u G J M=>CU y pl n c A l z u w0 G M (r.lift J);have O:(0:Int)<(n:Int):=by have:=z.ne;have:=r.len;omega
 have I:(n:Int)<=64:=by have:=z.few;have:=r.len;omega
 clear z r;go_enter Tryz.func230,Tryz.ntmps230
 go_wp2_with (go_at_call 231;refine(E.out (w.heap.size+1) w.heap.size _ S zbk (Mod.to (m:=(zbk:Mod ((w.alloc (.cells #[.slice A n c] 59)).alloc (.cells #[.bool true] 4)) w0 _)) rfl)).mono ?_;rintro e U ⟨rfl,K⟩)
 go_ret
 exact⟨rfl,Mod.keep K⟩
instance Oz:wl Tryz.prog 208 3 8:=⟨Tryz.underlying208,by kernel_rfl⟩
def o9 (l:List Nat):List Value:=l.map fun v:Nat=>.int .i64 (v:Int)
theorem C0 (s:ByteArray)(n:Nat):s.extract n s.size=oE s n:=by
 apply Xl;unfold oE;apply YY.1;rw[ByteArray.data_extract,ByteArray.toList_eq];simp;rw[Zn (by simp)]
theorem FV (s:ByteArray):oE s 0=s:=by
 apply Xl;unfold oE;apply YY.1;rw[ByteArray.toList_eq];simp
section
variable (pp pb pl:Nat)(x:ao)(hx:fS x)(hg:Bool)(A1 A2:Option Addr)(nb cb np cp:Nat)(xs:List UInt8)(ps:List Nat)(hnb:nb<=60000)(hnp:np<=1000)(w w0:World)(F:ba)
include hx hnb hnp in
theorem Ko (k:Nat)(hk:k%4=0)(aB:k<=1000)(m:Mod w w0 (aE pp (.cells #[.slice A1 np cp] 208 (0,0))*(ar 3 1 (.slice A1 np cp) np (o9 ps)*(aE pb (.cells #[.slice A2 nb cb] 67 (0,0))*(ar 5 1 (.slice A2 nb cb) nb (b7 xs)*F))))) :
 Calls Tryz.prog 232 #[.int .i64 (k:Int),.agg #[.string x.key,.int .u64 (x.seq:Int),.bool x.gone,.string x.value],ap pp,ap pb,ap pl] w fun e w'=>e=.returned (.tuple #[])/\∃z B af ag,Mod w' w0 (aE pp (.cells #[.slice z (np+1) B] 208 (0,0))*(ar 3 1 (.slice z (np+1) B) (np+1) (o9 (ps++[nb]))*(aE pb (.cells #[.slice af (nb+(ca 0++jz x).length) ag] 67 (0,0))*(ar 5 1 (.slice af (nb+(ca 0++jz x).length) ag) (nb+(ca 0++jz x).length) (b7 (xs++(ca 0++jz x)))*F)))):=by
 have az:((k:Int)%4==0)=true:=by rw[beq_iff_eq];omega
 have ax:(k:Int)%4=0:=oMg
 obtain⟨I,ah⟩:∃I,nb+(ca 0).length=I:=⟨_,rfl⟩;obtain⟨b1,O⟩:∃b1,xs++ca 0=b1:=⟨_,rfl⟩;obtain⟨J,ai⟩:∃J,I+(jz x).length=J:=⟨_,rfl⟩;obtain⟨b2,U⟩:∃b2,b1++jz x=b2:=⟨_,rfl⟩;have hl:=cN (n:=0) oMg;have he:=ze hx
 have au:Hid (∀(u:World)(G:ba),Mod u w0 G->bk G A2 nb (b7 xs)->Calls Tryz.prog 64 #[.slice A2 nb cb,.int .u64 0] u fun e w'=>∃A' c',e=.returned (.slice A' I c')/\Mod w' w0 (ar 5 1 (.slice A' I c') I (b7 b1)*G)):=fun u G mu ru=>by
  have h:=kx A2 nb cb xs 0 oMg u w0 G mu ru oMg;rw[ah,O]at h;exact h
 have av:Hid (∀(A1:Option Addr)(c1:Nat)(u:World)(G:ba),Mod u w0 G->bk G A1 I (b7 b1)->Calls Tryz.prog 27 #[.slice A1 I c1,.agg #[.string x.key,.int .u64 (x.seq:Int),.bool x.gone,.string x.value]] u fun e w'=>∃A' c',e=.returned (.slice A' J c')/\Mod w' w0 (ar 5 1 (.slice A' J c') J (b7 b2)*G)):=fun A1 c1 u G mu ru=>by
  have h:=wR A1 I c1 b1 x ⟨by have:=hx.size;omega,by have:=hx.value;omega,hx.seq⟩ u w0 G mu ru oMg;rw[ai,U]at h;exact h
 have aj:Hid (J=nb+(ca 0++jz x).length):=by
  show _=_;rw[Ze];omega
 have ak:Hid (b2=xs++(ca 0++jz x)):=by
  show _=_;rw[<-U,<-O,Zr]
 have ay:J<=100000:=oMg
 clear ah O ai U hl he hx;go_enter Tryz.func232,Tryz.ntmps232
 go_wp2_with (at_builtin;refine cS (v:=.slice A1 np cp) (A:=some ⟨w.heap.size+1,0,none⟩) (k:=1) (c:=1) (news:=[.int .i64 (nb:Int)]) (r:=ce rfl rfl) rfl rfl zbk rfl rfl (by simp[Value.oneCell']) (by unfold maxLen;omega) oMg ?_;intro z B w2 m2)
 go_wp2_with fail
 refine eS 6 (fun u=>u.cell? ⟨w.heap.size,0,none⟩=some (.string x.key)/\u.cell? ⟨w.heap.size,1,none⟩=some (.int .u64 (x.seq:Int))/\u.cell? ⟨w.heap.size,2,none⟩=some (.bool x.gone)/\u.cell? ⟨w.heap.size,3,none⟩=some (.string x.value)/\u.cell? ⟨pb,0,none⟩=some (.slice A2 nb cb)) kRf ⟨Za,Za,Za,Za,Za⟩ (fun y=>?_);simp only[Zl,List.length_cons,List.length_nil,Nat.reduceAdd];have mW:Mod ((w2.setCell ⟨pp,0,none⟩ (.slice z (np+1) B)).setCell ⟨w.heap.size,0,none⟩ (.string x.key)).drew w0 _:=Mod.drew (m:=(zbk:Mod ((w2.setCell ⟨pp,0,none⟩ (.slice z (np+1) B)).setCell ⟨w.heap.size,0,none⟩ (.string x.key)) w0 _));simp only[Zb,Zc]at mW;obtain⟨W,hW⟩:∃W,W=((w2.setCell ⟨pp,0,none⟩ (.slice z (np+1) B)).setCell ⟨w.heap.size,0,none⟩ (.string x.key)).drew:=⟨_,rfl⟩;rw[<-hW]at mW y ⊢;clear hW;refine cj 1 (some 35) (v:=?_) rfl rfl kRf (by decide) kRf kRf kRf (fun _ _ _ h=>h) (Or.inl ⟨by rfl,?_⟩) y ?_;rotate_left 1
 ·(intro u E;(try dsimp only at E);obtain⟨V,Y,Z,aa,ae⟩:=E;go_simp;try with_reducible rfl)
 simp only[Act.put,Zb,Zc,Zd];refine cj 2 (some 36) (v:=?_) rfl rfl kRf (by decide) kRf kRf kRf (fun _ _ _ h=>h) (Or.inl ⟨by rfl,?_⟩) y ?_;rotate_left 1
 ·(intro u E;(try dsimp only at E);obtain⟨V,Y,Z,aa,ae⟩:=E;go_simp;try with_reducible rfl)
 simp only[Act.put,Zb,Zc,Zd];refine cj 0 (some 34) (v:=?_) rfl rfl kRf (by decide) kRf kRf kRf (fun _ _ _ h=>h) (Or.inl ⟨by rfl,?_⟩) y ?_;rotate_left 1
 ·(intro u E;(try dsimp only at E);obtain⟨V,Y,Z,aa,ae⟩:=E;go_simp;try with_reducible rfl)
 simp only[Act.put,Zb,Zc,Zd];refine cj 4 (some 38) (v:=?_) rfl rfl kRf (by decide) kRf kRf kRf (fun _ _ _ h=>h) (Or.inl ⟨by rfl,?_⟩) y ?_;rotate_left 1
 ·(intro u E;(try dsimp only at E);obtain⟨V,Y,Z,aa,ae⟩:=E;go_simp;try with_reducible rfl)
 simp only[Act.put,Zb,Zc,Zd];refine aw (rs:=[3]) kRf (by simp) (am.cons (some 37) rfl rfl rfl (fun K M=>?_) am.nil);go_simp
 refine(au.out _ _ mW zbk).mono ?_;rintro e w3 ⟨A3,c3,rfl,m3⟩;refine M.out (.slice A3 I c3) _ ⟨Za,Za,Za,Za,Za⟩ (fun y=>?_);clear M K;simp only[Act.put,Zb,Zc,Zd];refine aw (rs:=[5]) kRf (by simp) (am.cons (some 39) rfl rfl rfl (fun K M=>?_) am.nil);go_simp
 refine(av.out A3 c3 _ _ m3 zbk).mono ?_;rintro e w4 ⟨A4,c4,rfl,m4⟩;refine M.out (.slice A4 J c4) _ ⟨Za,Za,Za,Za,Za⟩ (fun y=>?_);clear M K;simp only[Act.put,Zb,Zc,Zd];refine aw (rs:=[6]) kRf (by simp) (am.last none rfl rfl rfl (fun K M=>?_));go_simp
 refine M.out undef _ (fd kRf ?_);clear M K;simp only[Act.put];clear y mW m3;go_wp2_with fail
 go_end0
 have m5:Mod (w4.setCell ⟨pb,0,none⟩ (.slice A4 J c4)) w0 _:=zbk;simp only[Zb,Zc]at m5;refine⟨rfl,z,B,A4,c4,?_⟩;rw[<-aj.out,<-ak.out];have e1:o9 (ps++[nb])=o9 ps++[.int .i64 (nb:Int)]:=by simp[o9]
 rw[e1];exact Mod.keep m5
end
section
variable (pp pb pl:Nat)(x:ao)(hx:fS x)(A2:Option Addr)(nb cb:Nat)(xs:List UInt8)(hnb:nb<=60000)(w w0:World)(F:ba)
include hx hnb in
theorem Kp (q:Nat)(hk:(q+1)%4≠0)(y:ao)(hy:fS y)(n c b o:Nat)(hq:q<n)(aS:q<=1000)(cy:bw F b (o+q*4) (.string y.key))(m:Mod w w0 (aE pb (.cells #[.slice A2 nb cb] 67 (0,0))*(ar 5 1 (.slice A2 nb cb) nb (b7 xs)*(aE pl (.cells #[.slice (some ⟨b,o,none⟩) n c] 59 (0,0))*F)))) :
 Calls Tryz.prog 232 #[.int .i64 ((q:Int)+1),.agg #[.string x.key,.int .u64 (x.seq:Int),.bool x.gone,.string x.value],ap pp,ap pb,ap pl] w fun e w'=>e=.returned (.tuple #[])/\∃ai av,Mod w' w0 (aE pb (.cells #[.slice ai (nb+(ca (hO y.key.toList x.key.toList)++jz {x with key:=oE x.key (hO y.key.toList x.key.toList)}).length) av] 67 (0,0))*(ar 5 1 (.slice ai (nb+(ca (hO y.key.toList x.key.toList)++jz {x with key:=oE x.key (hO y.key.toList x.key.toList)}).length) av) (nb+(ca (hO y.key.toList x.key.toList)++jz {x with key:=oE x.key (hO y.key.toList x.key.toList)}).length) (b7 (xs++(ca (hO y.key.toList x.key.toList)++jz {x with key:=oE x.key (hO y.key.toList x.key.toList)})))*(aE pl (.cells #[.slice (some ⟨b,o,none⟩) n c] 59 (0,0))*F))):=by
 have aP:(((q:Int)+1)%4==0)=false:=beq_eq_false_iff_ne.2 oMg;have aL:((q:Int)+1)%4≠0:=oMg
 have aT:(q:Int)<(n:Int):=oMg
 have e1:(q:Int)+1-1=(q:Int):=oMg
 have aN:=hx.size;have aO:=hy.size;have aM:x.key.toList.length=x.key.size:=by rw[ByteArray.toList_eq,Array.length_toList];rfl
 have ax:=(wo y.key.toList x.key.toList).2;have aj:Hid (∀(u:World)(G:ba),Mod u w0 G->Calls Tryz.prog 233 #[.string y.key,.string x.key] u fun e w'=>e=.returned (.int .i64 (hO y.key.toList x.key.toList:Int))/\Mod w' w0 G):=fun u G mu=>CM y.key x.key oMg oMg u w0 G mu;obtain⟨B,aF⟩:∃B,hO y.key.toList x.key.toList=B:=⟨_,rfl⟩;rw[aF]at aj ax ⊢;have ay:=q8 x.key B;have ak:Hid (x.key.extract B x.key.size=oE x.key B):=C0 x.key B;obtain⟨M,aB⟩:∃M,nb+(ca B).length=M:=⟨_,rfl⟩;obtain⟨b1,V⟩:∃b1,xs++ca B=b1:=⟨_,rfl⟩;have hl:=cN (n:=B) oMg
 have aI:Hid (∀(u:World)(G:ba),Mod u w0 G->bk G A2 nb (b7 xs)->Calls Tryz.prog 64 #[.slice A2 nb cb,.int .u64 (B:Int)] u fun e w'=>∃A' c',e=.returned (.slice A' M c')/\Mod w' w0 (ar 5 1 (.slice A' M c') M (b7 b1)*G)):=fun u G mu ru=>by
  have h:=kx A2 nb cb xs B oMg u w0 G mu ru oMg;rw[aB,V]at h;exact h
 obtain⟨E,az⟩:∃E,oE x.key B=E:=⟨_,rfl⟩;rw[az]at ak ay ⊢;obtain⟨U,aD⟩:∃U,M+(jz {x with key:=E}).length=U:=⟨_,rfl⟩;obtain⟨b2,Y⟩:∃b2,b1++jz {x with key:=E}=b2:=⟨_,rfl⟩
 have aJ:Hid (∀(A1:Option Addr)(c1:Nat)(u:World)(G:ba),Mod u w0 G->bk G A1 M (b7 b1)->Calls Tryz.prog 27 #[.slice A1 M c1,.agg #[.string E,.int .u64 (x.seq:Int),.bool x.gone,.string x.value]] u fun e w'=>∃A' c',e=.returned (.slice A' U c')/\Mod w' w0 (ar 5 1 (.slice A' U c') U (b7 b2)*G)):=fun A1 c1 u G mu ru=>by
  have h:=wR A1 M c1 b1 {x with key:=E} ⟨by show E.size<=300;omega,by have:=hx.value;show x.value.size<=300;omega,hx.seq⟩ u w0 G mu ru oMg;rw[aD,Y]at h;exact h
 have aG:Hid (U=nb+(ca B++jz {x with key:=E}).length):=by
  show _=_;rw[Ze];omega
 have aH:Hid (b2=xs++(ca B++jz {x with key:=E})):=by
  show _=_;rw[<-Y,<-V,Zr]
 have aQ:(B:Int)<=(x.key.size:Int):=oMg
 have aR:(x.key.size:Int)<=32:=oMg
 have aU:IntKind.u64.wrap (B:Int)=(B:Int):=by rw[IntKind.wrap_u64];omega
 clear aB V aD Y hl hx hy aF az ay ax aM aO aN hk;go_enter Tryz.func232,Tryz.ntmps232
 go_wp2_with fail
 obtain⟨SS,I,ah⟩:∃SS,SS=_/\Mod (w.alloc (.cells #[.string x.key,.int .u64 (x.seq:Int),.bool x.gone,.string x.value] 71)) w0 SS:=⟨_,rfl,Mod.alloc (m:=m) _⟩;have h1:jq SS pl (.cells #[.slice (some ⟨b,o,none⟩) n c] 59 (0,0)):=by rw[I];infer_instance
 have h2:jq SS w.heap.size (.cells #[.string x.key,.int .u64 (x.seq:Int),.bool x.gone,.string x.value] 71 (0,0)):=by rw[I];infer_instance
 have aK:bw SS b (o+q*4) (.string y.key):=by rw[I];infer_instance
 have au:=zbj I;clear I;have:=jO.some ah;refine dy ah kRf kRf ?_
 repeat (go_big_quiet_step ((go_at_call 233;refine cW (aj.out _ _ ?_);exact zbk)))
 refine wpQuiet_nil ?_;rintro w2 ⟨s,rfl⟩;have m2:=Mod.to (m:=s.mod) au.out;clear ah au this h1 h2 aK;generalize s.world=w2 at *;go_wp2_with fail
 rw[ak.out];refine eS 6 (fun u=>u.cell? ⟨w.heap.size,0,none⟩=some (.string E)/\u.cell? ⟨w.heap.size,1,none⟩=some (.int .u64 (x.seq:Int))/\u.cell? ⟨w.heap.size,2,none⟩=some (.bool x.gone)/\u.cell? ⟨w.heap.size,3,none⟩=some (.string x.value)/\u.cell? ⟨pb,0,none⟩=some (.slice A2 nb cb)) kRf ⟨Za,Za,Za,Za,Za⟩ (fun z=>?_);simp only[Zl,List.length_cons,List.length_nil,Nat.reduceAdd];have mW:Mod (w2.setCell ⟨w.heap.size,0,none⟩ (.string E)).drew w0 _:=Mod.drew (m:=(zbk:Mod (w2.setCell ⟨w.heap.size,0,none⟩ (.string E)) w0 _));simp only[Zb,Zc]at mW;obtain⟨W,hW⟩:∃W,W=(w2.setCell ⟨w.heap.size,0,none⟩ (.string E)).drew:=⟨_,rfl⟩;rw[<-hW]at mW z ⊢;clear hW;refine cj 1 (some 35) (v:=?_) rfl rfl kRf (by decide) kRf kRf kRf (fun _ _ _ h=>h) (Or.inl ⟨by rfl,?_⟩) z ?_;rotate_left 1
 ·(intro u J;(try dsimp only at J);obtain⟨Z,aa,ae,af,ag⟩:=J;go_simp;try with_reducible rfl)
 simp only[Act.put,Zb,Zc,Zd];refine cj 2 (some 36) (v:=?_) rfl rfl kRf (by decide) kRf kRf kRf (fun _ _ _ h=>h) (Or.inl ⟨by rfl,?_⟩) z ?_;rotate_left 1
 ·(intro u J;(try dsimp only at J);obtain⟨Z,aa,ae,af,ag⟩:=J;go_simp;try with_reducible rfl)
 simp only[Act.put,Zb,Zc,Zd];refine cj 0 (some 34) (v:=?_) rfl rfl kRf (by decide) kRf kRf kRf (fun _ _ _ h=>h) (Or.inl ⟨by rfl,?_⟩) z ?_;rotate_left 1
 ·(intro u J;(try dsimp only at J);obtain⟨Z,aa,ae,af,ag⟩:=J;go_simp;try with_reducible rfl)
 simp only[Act.put,Zb,Zc,Zd];refine cj 4 (some 38) (v:=?_) rfl rfl kRf (by decide) kRf kRf kRf (fun _ _ _ h=>h) (Or.inl ⟨by rfl,?_⟩) z ?_;rotate_left 1
 ·(intro u J;(try dsimp only at J);obtain⟨Z,aa,ae,af,ag⟩:=J;go_simp;try with_reducible rfl)
 simp only[Act.put,Zb,Zc,Zd];refine aw (rs:=[3]) kRf (by simp) (am.cons (some 37) rfl rfl rfl (fun K O=>?_) am.nil);go_simp
 refine(aI.out _ _ mW zbk).mono ?_;rintro e w3 ⟨A3,c3,rfl,m3⟩;refine O.out (.slice A3 M c3) _ ⟨Za,Za,Za,Za,Za⟩ (fun z=>?_);clear O K;simp only[Act.put,Zb,Zc,Zd];refine aw (rs:=[5]) kRf (by simp) (am.cons (some 39) rfl rfl rfl (fun K O=>?_) am.nil);go_simp
 refine(aJ.out A3 c3 _ _ m3 zbk).mono ?_;rintro e w4 ⟨A4,c4,rfl,m4⟩;refine O.out (.slice A4 U c4) _ ⟨Za,Za,Za,Za,Za⟩ (fun z=>?_);clear O K;simp only[Act.put,Zb,Zc,Zd];refine aw (rs:=[6]) kRf (by simp) (am.last none rfl rfl rfl (fun K O=>?_));go_simp
 refine O.out undef _ (fd kRf ?_);clear O K;simp only[Act.put];clear z mW m3;go_wp2_with fail
 go_end0
 have m5:Mod (w4.setCell ⟨pb,0,none⟩ (.slice A4 U c4)) w0 _:=zbk;simp only[Zb,Zc]at m5;refine⟨rfl,A4,c4,?_⟩;rw[<-aG.out,<-aH.out];exact Mod.keep m5
end
def uT (w w0:World)(S:ba)(pp pb:Nat)(ps:List Nat)(y:List UInt8):Prop :=
 ∃A1 cp A2 cb,Mod w w0 (aE pp (.cells #[.slice A1 ps.length cp] 208 (0,0))*(ar 3 1 (.slice A1 ps.length cp) ps.length (o9 ps)*(aE pb (.cells #[.slice A2 y.length cb] 67 (0,0))*(ar 5 1 (.slice A2 y.length cb) y.length (b7 y)*S))))
theorem C5 (l:List ao)(q:Nat)(h:q<l.length)(d:ByteArray):kK d (l.take (q+1)) (q+1)=l[q].key:=by
 unfold kK;simp[h]
theorem KJ (l:List ao)(k:Nat)(h:k<l.length):l.take (k+1)=l.take k++[l[k]]:=by
 rw[zab,Zg h];rfl
theorem Kq (pp pb pl k n c:Nat)(A:Option Addr)(l:List ao)(J:sk l)(hk:k<l.length)(w w0:World)(S:ba)(m:uT w w0 (aE pl (.cells #[.slice A n c] 59 (0,0))*S) pp pb (mC 0 0 ⟨#[]⟩ (l.take k)) (kH 0 ⟨#[]⟩ (l.take k)))(r:bp S A n l) :
 Calls Tryz.prog 232 #[.int .i64 (k:Int),.agg #[.string l[k].key,.int .u64 (l[k].seq:Int),.bool l[k].gone,.string l[k].value],ap pp,ap pb,ap pl] w fun e Y=>e=.returned (.tuple #[])/\uT Y w0 (aE pl (.cells #[.slice A n c] 59 (0,0))*S) pp pb (mC 0 0 ⟨#[]⟩ (l.take (k+1))) (kH 0 ⟨#[]⟩ (l.take (k+1))):=by
 have hx:=J.ok _ (Zq hk);have hb:=sv (l.take k) 0 ⟨#[]⟩ fun x hx=>J.ok x (List.mem_of_mem_take hx);have hp:=qi (l.take k) 0 0 ⟨#[]⟩;have I:(l.take k).length=k:=by rw[Zt];omega
 have Z:=J.few;rw[I]at hb hp;rw[KJ l k hk,BQ,BS,I,ZM,ZM];obtain⟨A1,cp,A2,cb,m⟩:=m;generalize af:mC 0 0 ⟨#[]⟩ (l.take k)=ps at *;generalize ae:kH 0 ⟨#[]⟩ (l.take k)=y at *;by_cases E:k%4=0
 ·rw[if_pos E]
  have O:tK k (kK ⟨#[]⟩ (l.take k) k) l[k]=ca 0++jz l[k]:=by
   unfold tK rD;rw[if_pos E,FV]
  rw[O];refine(Ko pp pb pl l[k] hx A1 A2 y.length cb ps.length cp y ps oMg oMg w w0 _ k E oMg m).mono ?_;rintro e Y ⟨rfl,K,M,z,B,V⟩;refine⟨rfl,K,M,z,B,?_⟩;rw[Ze,@Ze _ y];exact V
 ·rw[if_neg E,ZH]
  cases k with
  | zero=>simp at E
  | succ q =>
    have U:q<l.length:=oMg
    have aa:=r.len;obtain⟨b,o,rfl⟩:=gw m (r.lift zbk) (k:=q) oMg
    have O:tK (q+1) (kK ⟨#[]⟩ (l.take (q+1)) (q+1)) l[q+1]=ca (hO l[q].key.toList l[q+1].key.toList)++jz {l[q+1]with key:=oE l[q+1].key (hO l[q].key.toList l[q+1].key.toList)}:=by
     unfold tK rD;rw[if_neg E,C5 l q U]
    rw[O];have mo:Mod w w0 (aE pb (.cells #[.slice A2 y.length cb] 67 (0,0))*(ar 5 1 (.slice A2 y.length cb) y.length (b7 y)*(aE pl (.cells #[.slice (some ⟨b,o,none⟩) n c] 59 (0,0))*(S*(aE pp (.cells #[.slice A1 ps.length cp] 208 (0,0))*ar 3 1 (.slice A1 ps.length cp) ps.length (o9 ps)))))):=Mod.to (m:=m) (by ac_rfl);have r2:bp (S*(aE pp (.cells #[.slice A1 ps.length cp] 208 (0,0))*ar 3 1 (.slice A1 ps.length cp) ps.length (o9 ps))) (some ⟨b,o,none⟩) n l:=r.lift zbk;refine(Kp pp pb pl l[q+1] hx A2 y.length cb y oMg w w0 _ q E l[q] (J.ok _ (Zq U)) n c b o oMg oMg (jc r2 U).1 mo).mono ?_;rintro e Y ⟨rfl,z,B,V⟩;refine⟨rfl,A1,cp,z,B,?_⟩;rw[@Ze _ y];exact Mod.to (m:=V) (by ac_rfl)
theorem CV (pp pb pl n c:Nat)(A:Option Addr)(l:List ao)(M:sk l)(w w0:World)(S:ba)(m:uT w w0 (aE pl (.cells #[.slice A n c] 59 (0,0))*S) pp pb [] [])(r:bp S A n l) :
 Calls Tryz.prog 231 #[.slice A n c,.func (.func 232) #[] #[ap pp,ap pb,ap pl]] w fun e O=>e=.returned (.tuple #[])/\uT O w0 (aE pl (.cells #[.slice A n c] 59 (0,0))*S) pp pb (mC 0 0 ⟨#[]⟩ l) (kH 0 ⟨#[]⟩ l):=by
 have R:=zbj r;have Z:=zbj M;have hnb:n<=1000:=by have:=M.few;have:=r.len;omega
 clear r M;go_enter Tryz.func231,Tryz.ntmps231
 go_wp2_with fail
 go_loopg [8] n (fun gk vi wr=>∃i:Nat,i<=n/\gk=n-i/\vi=.int .i64 (i:Int)/\uT wr w0 (aE pl (.cells #[.slice A n c] 59 (0,0))*S) pp pb (mC 0 0 ⟨#[]⟩ (l.take i)) (kH 0 ⟨#[]⟩ (l.take i)))
 case atStart=>exact⟨0,Zv _,rfl,rfl,m⟩
 case round =>
  obtain⟨i,hi,aa,rfl,A1,cp,A2,cb,E⟩:=hrel;by_cases B:i<n
  ·have K:(i:Int)<(n:Int):=oMg
   have z:i<l.length:=by rw[R.out.len];exact B
   obtain⟨b,o,rfl⟩:=gw E (R.out.lift zbk) B;obtain⟨x0,x1,x2,x3⟩:=jc R.out z;have Y:Hid (∀(u:World)(G:ba),Sub G S->uT u w0 (aE pl (.cells #[.slice (some ⟨b,o,none⟩) n c] 59 (0,0))*G) pp pb (mC 0 0 ⟨#[]⟩ (l.take i)) (kH 0 ⟨#[]⟩ (l.take i))->Calls Tryz.prog 232 #[.int .i64 (i:Int),.agg #[.string l[i].key,.int .u64 (l[i].seq:Int),.bool l[i].gone,.string l[i].value],ap pp,ap pb,ap pl] u fun e O=>e=.returned (.tuple #[])/\uT O w0 (aE pl (.cells #[.slice (some ⟨b,o,none⟩) n c] 59 (0,0))*G) pp pb (mC 0 0 ⟨#[]⟩ (l.take (i+1))) (kH 0 ⟨#[]⟩ (l.take (i+1)))):=fun u G hs mu=>Kq pp pb pl i n c (some ⟨b,o,none⟩) l Z.out z u w0 G mu (R.out.lift hs);generalize l[i]=y at *;clear z;go_wp2_with (go_at_call 232;refine(Y.out _ (aE wr.heap.size (.cells #[.string y.key,.int .u64 (y.seq:Int),.bool y.gone,.string y.value] 71 (0,0))*S) zbk ⟨A1,cp,A2,cb,Mod.to (m:=Mod.alloc (m:=E) _) (by ac_rfl)⟩).mono ?_;rintro e w3 ⟨rfl,U,J,V,I,m3⟩)
   go_roundg (n-(i+1))
   case measure=>omega
   case rel=>exact⟨i+1,B,rfl,by go_num,U,J,V,I,Mod.keep m3⟩
  ·have K:¬(i:Int)<(n:Int):=oMg
   have he:l.take i=l:=Zn (by rw[R.out.len];omega);rw[he]at E;go_wp2_with fail
   go_end0
   exact⟨rfl,A1,cp,A2,cb,E⟩
open Go.RowKit Go.Sl
attribute [local go_sem] ab bj bh bd
theorem Ia (l:List Nat)(k:Nat)(h:k<l.length):l.take (k+1)=l.take k++[l[k]]:=by
 rw[zab,Zg h];rfl
theorem Kr (i:Int)(v:Nat)(E:v<65536)(pb n c:Nat)(A:Option Addr)(xs:List UInt8)(hn:n<=1000000)(w w0:World)(F:ba)(m:Mod w w0 (aE pb (.cells #[.slice A n c] 67 (0,0))*(ar 5 1 (.slice A n c) n (b7 xs)*F))) :
 Calls Tryz.prog 235 #[.int .i64 i,.int .i64 (v:Int),ap pb] w fun e y=>e=.returned (.tuple #[])/\∃A' c',Mod y w0 (aE pb (.cells #[.slice A' (n+2) c'] 67 (0,0))*(ar 5 1 (.slice A' (n+2) c') (n+2) (b7 (xs++sj v))*F)):=by
 have B:Hid (∀(u:World)(G:ba),Mod u w0 (ar 5 1 (.slice A n c) n (b7 xs)*G)->Calls Tryz.prog 236 #[.slice A n c,.int .i64 (v:Int)] u fun e y=>∃A' c',e=.returned (.slice A' (n+2) c')/\Mod y w0 (ar 5 1 (.slice A' (n+2) c') (n+2) (b7 (xs++sj v))*G)):=fun u G I=>tO A n c xs v E oMg u w0 G I;go_enter Tryz.func235,Tryz.ntmps235
 go_wp2_with (go_at_call 236;refine(B.out _ (aE pb (.cells #[.slice A n c] 67 (0,0))*F) (Mod.to (m:=m) (by ac_rfl))).mono ?_;rintro e J ⟨A',c',rfl,K⟩)
 go_end0
 refine⟨rfl,A',c',?_⟩;have z:Mod (J.setCell ⟨pb,0,none⟩ (.slice A' (n+2) c')) w0 _:=zbk;simp only[Zb,Zc]at z;exact Mod.keep z
theorem CW (pb n c y M:Nat)(A K:Option Addr)(l:List Nat)(hl:∀v∈l,v<65536)(aa:l.length=n)(hn:n<=1000)(xs:List UInt8)(ae:xs.length=y)(af:y<=100000)(w w0:World)(S:ba)(m:Mod w w0 (aE pb (.cells #[.slice K y M] 67 (0,0))*(ar 5 1 (.slice K y M) y (b7 xs)*S)))(r:bk S A n (o9 l)) :
 Calls Tryz.prog 234 #[.slice A n c,.func (.func 235) #[] #[ap pb]] w fun e Y=>e=.returned (.tuple #[])/\∃A' c',Mod Y w0 (aE pb (.cells #[.slice A' (y+2*n) c'] 67 (0,0))*(ar 5 1 (.slice A' (y+2*n) c') (y+2*n) (b7 (xs++l.flatMap sj))*S)):=by
 have R:=zbj r;clear r;go_enter Tryz.func234,Tryz.ntmps234
 go_wp2_with fail
 go_loopg [8] n (fun gk vi wr=>∃i:Nat,i<=n/\gk=n-i/\vi=.int .i64 (i:Int)/\∃A' c',Mod wr w0 (aE pb (.cells #[.slice A' (y+2*i) c'] 67 (0,0))*(ar 5 1 (.slice A' (y+2*i) c') (y+2*i) (b7 (xs++(l.take i).flatMap sj))*S)))
 case atStart=>exact⟨0,Zv _,rfl,rfl,K,M,by simpa using m⟩
 case round =>
  obtain⟨i,hi,O,rfl,A',c',J⟩:=hrel;by_cases V:i<n
  ·have U:(i:Int)<(n:Int):=oMg
   have B:i<l.length:=oMg
   have z:(o9 l)[i]?=some (.int .i64 (l[i]:Int)):=by simp[o9,B]
   obtain⟨ad,hA,I,_⟩:=cP J (ct (S:=S) zbk R.out) oMg;obtain⟨b,o,sp⟩:=ad;simp only at I;subst I hA;have ci:=eL R.out oMg i z;have hv:=hl _ (Zq B)
   have HT:Hid (b7 (xs++(l.take i).flatMap sj++sj l[i])=b7 (xs++(l.take (i+1)).flatMap sj)):=by
    show _=_;rw[Ia l i B,Z4,Zr];simp
   generalize l[i]=v at *;clear z B
   have HM:Hid (∀(u:World)(G:ba),Mod u w0 (aE pb (.cells #[.slice A' (y+2*i) c'] 67 (0,0))*(ar 5 1 (.slice A' (y+2*i) c') (y+2*i) (b7 (xs++(l.take i).flatMap sj))*G))->Calls Tryz.prog 235 #[.int .i64 (i:Int),.int .i64 (v:Int),ap pb] u fun e Y=>e=.returned (.tuple #[])/\∃A2 Z,Mod Y w0 (aE pb (.cells #[.slice A2 (y+2*i+2) Z] 67 (0,0))*(ar 5 1 (.slice A2 (y+2*i+2) Z) (y+2*i+2) (b7 (xs++(l.take (i+1)).flatMap sj))*G))):=fun u G mu=>by
    have h:=Kr (i:Int) v hv pb (y+2*i) c' A' (xs++(l.take i).flatMap sj) oMg u w0 G mu;rw[HT.out]at h;exact h
   go_wp2_with (go_at_call 235;refine(HM.out _ _ J).mono ?_;rintro e w3 ⟨rfl,A3,c3,m3⟩)
   go_roundg (n-(i+1))
   case measure=>omega
   case rel=>exact⟨i+1,V,rfl,by go_num,A3,c3,Mod.keep m3⟩
  ·have U:¬(i:Int)<(n:Int):=oMg
   have he:l.take i=l:=Zn oMg;have E:i=n:=oMg
   rw[he,E]at J;clear O E;go_wp2_with fail
   go_end0
   exact⟨rfl,A',c',J⟩
theorem yO:∀(l:List ao)(i p:Nat)(last:ByteArray),∀v∈mC i p last l,v<=p+(kH i last l).length
 | [],_,_,_,v,y=>by simp[mC]at y
 | x::l,i,p,last,v,y=>by
   simp only[mC,ZA]at y;simp only[kH,Ze];rcases y with y | y
   ·split at y
    ·simp at y;omega
    ·simp at y
   ·have:=yO l (i+1) _ x.key v y;omega
theorem yN (n c:Nat)(A:Option Addr)(l:List ao)(K:sk l)(w w0:World)(S:ba)(m:Mod w w0 S)(r:bp S A n l) :
 Calls Tryz.prog 171 #[.slice A n c] w fun e B=>∃A' c',e=.returned (.tuple #[.slice A' (cU l).length c',.int .i64 0])/\Mod B w0 (ar 5 1 (.slice A' (cU l).length c') (cU l).length (b7 (cU l))*S):=by
 have HM:Hid (∀(u:World)(G:ba),Sub G S->Mod u w0 G->Calls Tryz.prog 230 #[.slice A n c] u fun e B=>e=.returned (.bool true)/\Mod B w0 G):=fun u G hs E=>Fz n c A l K u w0 G E (r.lift hs);have HE:Hid (∀(pp pb pl:Nat)(u:World)(G:ba),Sub G S->uT u w0 (aE pl (.cells #[.slice A n c] 59 (0,0))*G) pp pb [] []->Calls Tryz.prog 231 #[.slice A n c,.func (.func 232) #[] #[ap pp,ap pb,ap pl]] u fun e B=>e=.returned (.tuple #[])/\uT B w0 (aE pl (.cells #[.slice A n c] 59 (0,0))*G) pp pb (mC 0 0 ⟨#[]⟩ l) (kH 0 ⟨#[]⟩ l)):=fun pp pb pl u G hs E=>CV pp pb pl n c A l K u w0 G E (r.lift hs);have J:=K.few;have Y:=sv l 0 ⟨#[]⟩ fun x hx=>K.ok x hx;have aa:=qi l 0 0 ⟨#[]⟩;have M:∀v∈mC 0 0 ⟨#[]⟩ l,v<65536:=fun v hv=>by have:=yO l 0 0 ⟨#[]⟩ v hv;omega
 have V:cU l=kH 0 ⟨#[]⟩ l++((mC 0 0 ⟨#[]⟩ l).flatMap sj++sj (mC 0 0 ⟨#[]⟩ l).length):=rfl
 have hL:(cU l).length=(kH 0 ⟨#[]⟩ l).length+2*(mC 0 0 ⟨#[]⟩ l).length+2:=by
  rw[V,Ze,Ze,vy];simp[sj];omega
 generalize ae:mC 0 0 ⟨#[]⟩ l=ps at *;generalize Z:kH 0 ⟨#[]⟩ l=y at *;have HB:=zbj V;have HL:=zbj hL;have HT:Hid (∀(pb:Nat)(O A1:Option Addr)(U z:Nat)(u:World)(G:ba),Mod u w0 (aE pb (.cells #[.slice O y.length U] 67 (0,0))*(ar 5 1 (.slice O y.length U) y.length (b7 y)*G))->bk G A1 ps.length (o9 ps)->Calls Tryz.prog 234 #[.slice A1 ps.length z,.func (.func 235) #[] #[ap pb]] u fun e B=>e=.returned (.tuple #[])/\∃A' c',Mod B w0 (aE pb (.cells #[.slice A' (y.length+2*ps.length) c'] 67 (0,0))*(ar 5 1 (.slice A' (y.length+2*ps.length) c') (y.length+2*ps.length) (b7 (y++ps.flatMap sj))*G))):=fun pb O A1 U z u G E rr=>CW pb ps.length z y.length U A1 O ps M rfl oMg y rfl oMg u w0 G E rr;have HN:Hid (∀(A1:Option Addr)(z:Nat)(u:World)(G:ba),Mod u w0 (ar 5 1 (.slice A1 (y.length+2*ps.length) z) (y.length+2*ps.length) (b7 (y++ps.flatMap sj))*G)->Calls Tryz.prog 236 #[.slice A1 (y.length+2*ps.length) z,.int .i64 (ps.length:Int)] u fun e B=>∃A' c',e=.returned (.slice A' (y.length+2*ps.length+2) c')/\Mod B w0 (ar 5 1 (.slice A' (y.length+2*ps.length+2) c') (y.length+2*ps.length+2) (b7 (y++ps.flatMap sj++sj ps.length))*G)):=fun A1 z u G E=>tO A1 _ z _ ps.length oMg oMg u w0 G E;clear K r Z ae V hL J Y aa M;go_enter Tryz.func171,Tryz.ntmps171
 go_wp2_with (go_at_call 230;refine(HM.out _ (aE w.heap.size (.cells #[.slice A n c] 59 (0,0))*S) zbk (Mod.to (m:=Mod.alloc (m:=m) _) rfl)).mono ?_;rintro e I ⟨rfl,m3⟩)
 have m4:Mod ((I.alloc (.cells #[.slice none 0 0] 67)).alloc (.cells #[.slice none 0 0] 208)) w0 _:=zbk;have m5:=ey (e:=5) (size:=1) m4;have m6:=ey (e:=3) (size:=1) m5;go_wp2_with (go_at_call 231;refine(HE.out (I.heap.size+1) I.heap.size w.heap.size _ S zbk ⟨none,0,none,0,Mod.to (m:=m6) (by simp only[o9,Ye,b7];ac_rfl)⟩).mono ?_;rintro e w4 ⟨rfl,A1,z,A2,c2,m7⟩)
 go_wp2_with (go_at_call 234;refine(HT.out I.heap.size A2 A1 c2 z _ (aE (I.heap.size+1) (.cells #[.slice A1 ps.length z] 208 (0,0))*(ar 3 1 (.slice A1 ps.length z) ps.length (o9 ps)*(aE w.heap.size (.cells #[.slice A n c] 59 (0,0))*S))) (Mod.to (m:=m7) (by ac_rfl)) zbk).mono ?_;rintro e w5 ⟨rfl,A5,c5,m8⟩)
 go_wp2_with (go_at_call 236;refine(HN.out A5 c5 _ (aE I.heap.size (.cells #[.slice A5 (y.length+2*ps.length) c5] 67 (0,0))*(aE (I.heap.size+1) (.cells #[.slice A1 ps.length z] 208 (0,0))*(ar 3 1 (.slice A1 ps.length z) ps.length (o9 ps)*(aE w.heap.size (.cells #[.slice A n c] 59 (0,0))*S)))) (Mod.to (m:=m8) (by ac_rfl))).mono ?_;rintro e w6 ⟨A6,c6,rfl,m9⟩)
 go_ret2
 refine⟨A6,c6,by rw[HL.out];rfl,?_⟩;rw[HL.out,HB.out,<-Zr];exact Mod.keep m9
attribute [local go_sem] ab bj bh bd wW
theorem vT {P:Program}{w w0:World}{B F:ba}{dT sT ty elem t:TypeId}(Y:P.underlying dT=some (.slice elem))(J:(P.info? elem).map (·.size)=some 1)(m:Mod w w0 B){g:Nat}{y:Array Value} [tk:eM B (aE g) (.cells y t (0,0)) F]
 {off dLen dCap:Nat} {A:Option Addr} {k c:Nat} {news:List Value} (r:bk B A k news) (V:0<k) (E:k<=dLen) (K:off+k<=y.size) (O:∀v∈news,v.oneCell'=true) :
 (Builtin.copy_ #[dT,sT] ty #[.slice (some ⟨g,off,none⟩) dLen dCap,.slice A k c]).run P w=.ok (goInt k) (w.setCells g off news)/\Mod (w.setCells g off news) w0 (aE g (.cells (Sort.setMany y off news) t (0,0))*F):=by
 have M:=fp m r;obtain⟨ad,rfl,I,U⟩:=cP m r V;have mt:Mod w w0 (aE g (.cells y t (0,0))*F):=Mod.to (m:=m) tk.eq;have z:=run_copy_cells (P:=P) w dT sT ty elem g off dLen dCap ad k c news Y J (by rw[M];exact(YJ E).symm) (fun j v Z=>by rw[jl ad j I];exact U j v Z) (fun j hj=>by rw[ab (cs:=y) (t:=t),Yk oMg];rfl) (fun j _=>bh (cs:=y) (t:=t)) O;rw[M]at z;exact⟨z,lG news off y w mt⟩
theorem Nm (y:Array Value)(h x:List Value)(E:y.size=h.length+x.length):(Sort.setMany (Sort.setMany y 0 h) h.length x).toList=h++x:=by
 apply Yu;intro t;rw[ZG,ml? _ _ _ (by rw[Sort.size_setMany];omega),ml? _ _ _ oMg];by_cases z:t<h.length
 ·rw[if_neg oMg,if_pos oMg,Yz z,Nat.sub_zero]
 ·by_cases B:t<h.length+x.length
  ·rw[if_pos oMg,Z7 oMg]
  ·rw[if_neg oMg,if_neg oMg,Z7 oMg,YE oMg,YN oMg]
theorem Es (w:World)(n:Nat)(h:n<=10000000):(Instr.makeSlice 67 (.int .i64 (n:Int)) (.int .i64 (n:Int))).run Tryz.prog w=.ok (.slice (some ⟨w.heap.size,0,none⟩) n n) (w.alloc (.cells (madeCells #[.int .u8 0] n) 5)):=by
 obtain⟨i,z,E,B,y⟩:=It;have:=run_make w 67 5 i (.int .u8 0) kRf z E .i64 .i64 n n oMg (Int.le_refl _) (by rw[y];omega) oMg;rw[this,B,zas,Int.toNat_natCast];rfl
theorem zs (B z:Option Addr)(n c y I:Nat)(xs E:List UInt8)(hn:n<=100000000)(J:y<=100000000)(w w0:World)(S:ba)(m:Mod w w0 S)(r:bk S B n (b7 xs))(M:bk S z y (b7 E)) :
 Calls Tryz.prog 275 #[.slice B n c,.slice z y I] w fun e O=>e=.returned (.int .u32 ((rx xs E).toNat:Int))/\Mod O w0 S:=by
 go_enter Tryz.func275,Tryz.ntmps275
 go_wp2_with (go_at_call 193;refine(uO _ w0 _ zbk).mono ?_;rintro e w1 ⟨rfl,U⟩)
 go_wp2_with first
  | (go_at_call 195;refine(Db w1.heap.size B n c xs _ w0 _ zbk zbk (ct zbk r) oMg).mono ?_;rintro e Y ⟨rfl,K⟩)
  | (go_at_call 194;refine(yt w1.heap.size (kO 0#32 xs) z y I E _ w0 _ K zbk (ct zbk M) oMg).mono ?_;rintro e Z ⟨rfl,V⟩)
 go_ret
 exact⟨rfl,Mod.sub S⟩
theorem Gf (B:Option Addr)(n c:Nat)(xs:List UInt8)(h0:0<n)(hn:n<=65536)(w w0:World)(S:ba)(m:Mod w w0 S)(r:bk S B n (b7 xs)) :
 Calls Tryz.prog 237 #[.slice B n c] w fun e K=>∃A',e=.returned (.tuple #[.slice A' (n+8) (n+8),.int .i64 0])/\Mod K w0 (ar 5 1 (.slice A' (n+8) (n+8)) (n+8) (b7 (gt xs))*S):=by
 have J:xs.length=n:=by have:=fp m r;simpa [b7]using this
 have O:gt xs=(ff n++ff (rx (ff n) xs).toNat)++xs:=by unfold gt;rw[J,Zr]
 have ak:(n:Int)<=65536:=oMg
 have I:(rx (ff n) xs).toNat<4294967296:=(rx (ff n) xs).isLt
 have Z:Hid (∀(u:World)(G:ba),Mod u w0 G->Calls Tryz.prog 126 #[.slice none 0 0,.int .u32 (n:Int)] u fun e K=>∃A' c',e=.returned (.slice A' 4 c')/\Mod K w0 (ar 5 1 (.slice A' 4 c') 4 (b7 (ff n))*G)):=fun u G V=>by
  have h:=lE none 0 0 [] n oMg u w0 G V (bk.jE none) oMg;exact h
 have HS:Hid (∀(A1:Option Addr)(y:Nat)(u:World)(G:ba),Mod u w0 G->bk G A1 4 (b7 (ff n))->bk G B n (b7 xs)->Calls Tryz.prog 275 #[.slice A1 4 y,.slice B n c] u fun e K=>e=.returned (.int .u32 ((rx (ff n) xs).toNat:Int))/\Mod K w0 G):=fun A1 y u G V r1 r2=>zs A1 B 4 y n c (ff n) xs oMg oMg u w0 G V r1 r2;have aa:Hid (∀(A1:Option Addr)(y:Nat)(u:World)(G:ba),Mod u w0 G->bk G A1 4 (b7 (ff n))->Calls Tryz.prog 126 #[.slice A1 4 y,.int .u32 ((rx (ff n) xs).toNat:Int)] u fun e K=>∃A' c',e=.returned (.slice A' 8 c')/\Mod K w0 (ar 5 1 (.slice A' 8 c') 8 (b7 (ff n++ff (rx (ff n) xs).toNat))*G)):=fun A1 y u G V r1=>lE A1 4 y (ff n) _ I u w0 G V r1 oMg;generalize (rx (ff n) xs).toNat=Y at *;have z:(b7 (ff n++ff Y)).length=8:=by simp[b7,ff]
 have E:(b7 xs).length=n:=by simpa [b7]using J
 have ae:∀v∈b7 (ff n++ff Y),v.oneCell'=true:=io _;have af:∀v∈b7 xs,v.oneCell'=true:=io _;have HF:Hid (b7 (gt xs)=b7 (ff n++ff Y)++b7 xs):=by show _=_;rw[O,eC]
 have ai:∀u,(Instr.makeSlice 67 (.int .i64 (8+(n:Int))) (.int .i64 (8+(n:Int)))).run Tryz.prog u=.ok (.slice (some ⟨u.heap.size,0,none⟩) (n+8) (n+8)) (u.alloc (.cells (madeCells #[.int .u8 0] (n+8)) 5)):=fun u=>by
  have h:=Es u (n+8) oMg;rw[show ((n+8:Nat):Int)=8+(n:Int) by omega]at h;exact h
 generalize b7 (ff n++ff Y)=hd at *;clear I J O;go_enter Tryz.func237,Tryz.ntmps237
 go_wp2_with (go_at_call 126;refine(Z.out _ _ m).mono ?_;rintro e w1 ⟨A1,y,rfl,m1⟩)
 go_wp2_with (go_at_call 275;refine(HS.out A1 y _ (aE w1.heap.size (.cells (madeCells #[.int .u8 0] (n+8)) 5 (0,0))*(ar 5 1 (.slice A1 4 y) 4 (b7 (ff n))*S)) (Mod.to (m:=Mod.alloc (m:=m1) _) rfl) zbk (ct zbk r)).mono ?_;rintro e w2 ⟨rfl,m2⟩)
 go_wp2_with (go_at_call 126;refine(aa.out A1 y _ _ m2 zbk).mono ?_;rintro e w3 ⟨A3,c3,rfl,m3⟩)
 generalize aj:w1.heap.size=M at *;obtain⟨ag,m4⟩:=vT (P:=Tryz.prog) (dT:=67) (sT:=67) (ty:=3) (elem:=5) (t:=5) (g:=M) (off:=0) (dLen:=n+8) (dCap:=n+8) (A:=A3) (k:=8) (c:=c3) (news:=hd) kRf kRf m3 zbk oMg oMg (by rw[size_madeCells];simp) ae;generalize w3.setCells M 0 hd=w4 at *;rw[ag];go_wp2_with fail
 obtain⟨ah,m5⟩:=vT (P:=Tryz.prog) (dT:=67) (sT:=67) (ty:=3) (elem:=5) (t:=5) (g:=M) (off:=8) (dLen:=n) (dCap:=n) (A:=B) (k:=n) (c:=c) (news:=b7 xs) kRf kRf m4 (ct zbk r) h0 (Zm _) (by rw[Sort.size_setMany,size_madeCells];omega) af;generalize w4.setCells M 8 (b7 xs)=w5 at *;rw[ah];go_wp2_with fail
 go_ret2
 refine⟨some ⟨M,0,none⟩,rfl,?_⟩;have U:(madeCells #[.int .u8 0] (n+8)).size=hd.length+(b7 xs).length:=by rw[size_madeCells,z,E];omega
 have ht:=Nm (madeCells #[.int .u8 0] (n+8)) hd (b7 xs) U;rw[z]at ht;rw[HF.out];have m6:Mod w5 w0 (aE M (.cells (Sort.setMany (Sort.setMany (madeCells #[.int .u8 0] (n+8)) 0 hd) 8 (b7 xs)) 5 (0,0))*S):=Mod.keep m5;refine EP m6 (Zm _) (by unfold maxLen;omega) (by rw[Sort.size_setMany,Sort.size_setMany,U,z,E];omega) (by rw[Ze,z,E];omega) ?_;rw[ht,Zn (by rw[Ze,z,E];omega)]
attribute [local go_sem] ab bj bh bd wW CS
theorem CO (n:Nat)(hn:n<=100000000)(w:World):Calls Tryz.prog 238 #[.int .i64 (n:Int)] w fun e y=>e=.returned (.int .i64 (((n+7) / 8:Nat):Int))/\y=w:=by
 go_enter Tryz.func238,Tryz.ntmps238
 go_wp2_with fail
 go_ret
 exact⟨by rw[show (((n+7) / 8:Nat):Int)=((n:Int)+7) / 8 by omega];rfl,rfl⟩
theorem Me (v:UInt8)(k:Nat):Go.bits BinOp.or IntKind.u8 (v.toNat:Int) ((2:Int) ^ k%256)=((v ||| UInt8.ofNat (2 ^ k)).toNat:Int):=by
 have e:((2:Int) ^ k%256)=((2 ^ k%256:Nat):Int):=by rw[Int.natCast_emod,Int.natCast_pow];rfl
 rw[e,u8_or_nat _ _ v.toNat_lt oMg,UInt8.toNat_or,UInt8.toNat_ofNat']
theorem Nn (b:List UInt8)(k:Nat)(v:UInt8):(b7 b).set k (.int .u8 (v.toNat:Int))=b7 (b.set k v):=by simp[b7]
theorem Dy (pb y N at_:Nat)(b:List UInt8)(O:b.length=N)(M:at_ / 8<N)(hn:N<=100000000)(w w0:World)(F:ba)(m:Mod w w0 (aE pb (.cells #[.slice (some ⟨y,0,none⟩) N N] 67 (0,0))*(aE y (.cells (b7 b).toArray 5 (0,0))*F))) :
 Calls Tryz.prog 240 #[.int .u32 (at_:Int),ap pb] w fun e V=>e=.returned (.bool true)/\Mod V w0 (aE pb (.cells #[.slice (some ⟨y,0,none⟩) N N] 67 (0,0))*(aE y (.cells (b7 (oD b at_)).toArray 5 (0,0))*F)):=by
 have z:at_ / 8<b.length:=oMg
 have E:(at_:Int) / 8<(N:Int):=oMg
 have K:0<=(at_:Int) / 8:=oMg
 have B:(b7 b)[at_ / 8]?=some (.int .u8 (b[at_ / 8].toNat:Int)):=by simp[b7,z]
 have U:((at_:Int) / 8).toNat=at_ / 8:=oMg
 clear O;go_enter Tryz.func240,Tryz.ntmps240
 go_wp2_with fail
 go_ret
 refine⟨rfl,?_⟩;rw[Me];have I:Mod (w.setCell ⟨y,at_ / 8,none⟩ (.int .u8 ((b[at_ / 8] ||| UInt8.ofNat (2 ^ (at_%8))).toNat:Int))) w0 _:=zbk;rw[Zb,Nn]at I
 have J:oD b at_=b.set (at_ / 8) (b[at_ / 8] ||| UInt8.ofNat (2 ^ (at_%8))):=by
  unfold oD;rw[Zw,Zg z];rfl
 rw[J];exact Mod.keep I
def pH (key:ByteArray)(y i:Nat)(b:List UInt8):List UInt8:=(List.range i).foldl (fun b j=>oD b (oH key y j)) b
theorem yM (key:ByteArray)(y i:Nat)(b:List UInt8):pH key y (i+1) b=oD (pH key y i b) (oH key y i):=by
 unfold pH;rw[List.range_succ,Xg];rfl
theorem G6 (b:List UInt8)(k:Nat):(oD b k).length=b.length:=by unfold oD;rw[zaw]
theorem wv (key:ByteArray)(y:Nat):∀(i:Nat)(b:List UInt8),(pH key y i b).length=b.length
 | 0,b=>rfl
 | i+1,b=>by rw[yM,G6,wv key y i b]
theorem Dx (key:ByteArray)(J:key.size<=1000000)(pb y N M:Nat)(b:List UInt8)(hb:b.length=N)(Z:0<M)(hM:M<N)(hn:N<=100000000)(w w0:World)(F:ba)(m:Mod w w0 (aE pb (.cells #[.slice (some ⟨y,0,none⟩) N N] 67 (0,0))*(aE y (.cells (b7 b).toArray 5 (0,0))*F))) :
 Calls Tryz.prog 239 #[.string key,.int .u32 ((8*M:Nat):Int),.func (.func 240) #[] #[ap pb]] w fun e I=>e=.returned (.bool true)/\Mod I w0 (aE pb (.cells #[.slice (some ⟨y,0,none⟩) N N] 67 (0,0))*(aE y (.cells (b7 (pH key (8*M) 6 b)).toArray 5 (0,0))*F)):=by
 have af:((8*M:Nat):Int)≠0:=oMg
 have hs:(kO 0#32 key.data.toList).toNat<4294967296:=(kO 0#32 key.data.toList).isLt;have hd:(kO (kO 0#32 key.data.toList) [1]).toNat<4294967296:=(kO (kO 0#32 key.data.toList) [1]).isLt;have z:Hid (∀i,oH key (8*M) i=((kO 0#32 key.data.toList).toNat+i*(kO (kO 0#32 key.data.toList) [1]).toNat)%4294967296%(8*M)):=fun i=>rfl;go_enter Tryz.func239,Tryz.ntmps239
 go_wp2_with (go_at_call 193;refine(uO _ w0 _ zbk).mono ?_;rintro e w1 ⟨rfl,m1⟩)
 go_wp2_with (go_at_call 195;refine(Db w1.heap.size _ _ _ key.data.toList _ w0 _ zbk zbk zbk oMg).mono ?_;rintro e w2 ⟨rfl,m2⟩)
 go_wp2_with (go_at_call 194;refine(yt w1.heap.size (kO 0#32 key.data.toList) _ 1 _ [1] _ w0 _ zbk zbk (ce rfl rfl) oMg).mono ?_;rintro e U ⟨rfl,K⟩)
 have m4:Mod U w0 (aE pb (.cells #[.slice (some ⟨y,0,none⟩) N N] 67 (0,0))*(aE y (.cells (b7 (pH key (8*M) 0 b)).toArray 5 (0,0))*F)):=by
  have h:Mod U w0 (aE pb (.cells #[.slice (some ⟨y,0,none⟩) N N] 67 (0,0))*(aE y (.cells (b7 b).toArray 5 (0,0))*F)):=Mod.keep K;exact h
 clear K m2 m1;generalize (kO (kO 0#32 key.data.toList) [1]).toNat=d at *;generalize (kO 0#32 key.data.toList).toNat=s at *;go_loopg [18] 6 (fun gk vi wr=>∃i:Nat,i<=6/\gk=6-i/\vi=.int .i64 (i:Int)/\Mod wr w0 (aE pb (.cells #[.slice (some ⟨y,0,none⟩) N N] 67 (0,0))*(aE y (.cells (b7 (pH key (8*M) i b)).toArray 5 (0,0))*F)))
 case atStart=>exact⟨0,oMg,rfl,rfl,m4⟩
 case round =>
  obtain⟨i,hi,aa,rfl,O⟩:=hrel;by_cases ae:i<6
  ·have E:(i:Int)<6:=oMg
   have B:oH key (8*M) i / 8<N:=by
    have h:=zbe ((s+i*d)%4294967296) (show 0<8*M by omega);rw[z.out];omega
   have V:Hid (∀(u:World)(G:ba),Mod u w0 (aE pb (.cells #[.slice (some ⟨y,0,none⟩) N N] 67 (0,0))*(aE y (.cells (b7 (pH key (8*M) i b)).toArray 5 (0,0))*G))->Calls Tryz.prog 240 #[.int .u32 (((s:Int)+(i:Int)*(d:Int))%4294967296%(8*(M:Int))),ap pb] u fun e I=>e=.returned (.bool true)/\Mod I w0 (aE pb (.cells #[.slice (some ⟨y,0,none⟩) N N] 67 (0,0))*(aE y (.cells (b7 (pH key (8*M) (i+1) b)).toArray 5 (0,0))*G))):=fun u G mu=>by
    have h:=Dy pb y N (oH key (8*M) i) (pH key (8*M) i b) (by rw[wv];exact hb) B hn u w0 G mu;rw[<-yM]at h
    have e:((oH key (8*M) i:Nat):Int)=((s:Int)+(i:Int)*(d:Int))%4294967296%(8*(M:Int)):=by
     rw[z.out];simp
    rw[e]at h;exact h
   clear B;go_wp2_with (go_at_call 240;refine(V.out _ _ O).mono ?_;rintro e w6 ⟨rfl,m6⟩)
   go_roundg (6-(i+1))
   case measure=>omega
   case rel=>exact⟨i+1,oMg,rfl,by go_num,m6⟩
  ·have E:¬(i:Int)<6:=oMg
   have Y:i=6:=oMg
   subst Y;go_wp2_with fail
   go_ret
   exact⟨rfl,O⟩
def fP (M:Nat)(y:List ByteArray):List UInt8:=y.foldl (fun b k=>pH k (8*M) 6 b) (eA M++[6])
theorem yP (M:Nat)(y:List ByteArray):(fP M y).length=M+1:=by
 unfold fP
 have h:∀(y:List ByteArray)(b:List UInt8),(y.foldl (fun b k=>pH k (8*M) 6 b) b).length=b.length:=by
  intro y
  induction y with
  | nil=>intro b;rfl
  | cons k y z=>intro b;rw[List.foldl_cons,z,wv]
 rw[h];simp[eA]
theorem Dz (M:Nat)(y:List ByteArray)(k:ByteArray):fP M (y++[k])=pH k (8*M) 6 (fP M y):=by
 unfold fP;rw[Xg];rfl
theorem FA (A:Option Addr)(n c:Nat)(y:List ByteArray)(Z:y.length=n)(Y:∀k∈y,k.size<=1000000)(hn:n<=100000)(w w0:World)(S:ba)(m:Mod w w0 S)(r:bk S A n (y.map Value.string)) :
 Calls Tryz.prog 174 #[.slice A n c] w fun e K=>∃A',e=.returned (.slice A' (kv n+1) (kv n+1))/\Mod K w0 (ar 5 1 (.slice A' (kv n+1) (kv n+1)) (kv n+1) (b7 (ui y))*S):=by
 have R:=zbj r;have hM:kv n<=1000000/\0<kv n:=by unfold kv;omega
 have af:((max 64 (10*n)+7) / 8:Nat)=kv n:=rfl
 have HW:Hid (∀(u:World)(G:ba),Mod u w0 G->Calls Tryz.prog 238 #[.int .i64 (max 64 (10*(n:Int)))] u fun e K=>e=.returned (.int .i64 (kv n:Int))/\Mod K w0 G):=fun u G mu=>by
  have h:=CO (max 64 (10*n)) oMg u;rw[show ((max 64 (10*n):Nat):Int)=max 64 (10*(n:Int)) by omega]at h;exact h.mono fun e K ⟨h1,h2⟩=>⟨h1,h2▸mu⟩
 have HB:Hid (ui y=fP (kv n) y):=by show _=_;rw[<-Z];rfl
 generalize kv n=M at *;obtain⟨aj,ae⟩:=hM
 have ai:∀u,(Instr.makeSlice 67 (.int .i64 ((M:Int)+1)) (.int .i64 ((M:Int)+1))).run Tryz.prog u=.ok (.slice (some ⟨u.heap.size,0,none⟩) (M+1) (M+1)) (u.alloc (.cells (madeCells #[.int .u8 0] (M+1)) 5)):=fun u=>by
  have h:=Es u (M+1) oMg;rw[show ((M+1:Nat):Int)=(M:Int)+1 by omega]at h;exact h
 have J:=toList_madeCells_one (.int .u8 0) (M+1);generalize madeCells #[.int .u8 0] (M+1)=U at *
 have E:U.setIfInBounds M (.int .u8 6)=(b7 (eA M++[6])).toArray:=by
  apply YY.1;rw[Array.toList_setIfInBounds,J];simp[b7,eA,List.replicate_succ']
 have I:U[M]?=some (.int .u8 0):=by
  rw[<-ZG,J];simp
 have O:=zbj E;clear r af J E;go_enter Tryz.func174,Tryz.ntmps174
 go_wp2_with (go_at_call 238;refine(HW.out _ _ m).mono ?_;rintro e w1 ⟨rfl,m1⟩)
 rw[O.out];have m4:Mod ((w1.alloc (.cells (b7 (eA M++[6])).toArray 5)).alloc (.cells #[.slice (some ⟨w1.heap.size,0,none⟩) (M+1) (M+1)] 67)) w0 _:=zbk
 have m5:Mod ((w1.alloc (.cells (b7 (eA M++[6])).toArray 5)).alloc (.cells #[.slice (some ⟨w1.heap.size,0,none⟩) (M+1) (M+1)] 67)) w0 (aE (w1.heap.size+1) (.cells #[.slice (some ⟨w1.heap.size,0,none⟩) (M+1) (M+1)] 67 (0,0))*(aE w1.heap.size (.cells (b7 (fP M (y.take 0))).toArray 5 (0,0))*S)):=by
  have h:Mod ((w1.alloc (.cells (b7 (eA M++[6])).toArray 5)).alloc (.cells #[.slice (some ⟨w1.heap.size,0,none⟩) (M+1) (M+1)] 67)) w0 (aE (w1.heap.size+1) (.cells #[.slice (some ⟨w1.heap.size,0,none⟩) (M+1) (M+1)] 67 (0,0))*(aE w1.heap.size (.cells (b7 (eA M++[6])).toArray 5 (0,0))*S)):=Mod.keep m4;exact h
 clear m4 m1 m;generalize ((w1.alloc (.cells (b7 (eA M++[6])).toArray 5)).alloc (.cells #[.slice (some ⟨w1.heap.size,0,none⟩) (M+1) (M+1)] 67))=w2 at *;generalize w1.heap.size+1=pb at *;generalize w1.heap.size=z at *;go_loopg [20] n (fun gk vi wr=>∃i:Nat,i<=n/\gk=n-i/\vi=.int .i64 (i:Int)/\Mod wr w0 (aE pb (.cells #[.slice (some ⟨z,0,none⟩) (M+1) (M+1)] 67 (0,0))*(aE z (.cells (b7 (fP M (y.take i))).toArray 5 (0,0))*S)))
 case atStart=>exact⟨0,Zv _,rfl,rfl,m5⟩
 case round =>
  obtain⟨i,hi,ak,rfl,m6⟩:=hrel;by_cases ah:i<n
  ·have ag:(i:Int)<(n:Int):=oMg
   have B:i<y.length:=oMg
   have V:(y.map Value.string)[i]?=some (.string y[i]):=by simp[B]
   obtain⟨ad,hA,aa,_⟩:=cP m6 (ct (S:=S) zbk R.out) oMg;obtain⟨b,o,sp⟩:=ad;simp only at aa;subst aa hA;have ci:=eL R.out oMg i V;have hk:=Y _ (Zq B)
   have HT:Hid (fP M (y.take (i+1))=pH y[i] (8*M) 6 (fP M (y.take i))):=by
    show _=_;rw[zab,Zg B,<-Dz];rfl
   generalize y[i]=k at *
   have HE:Hid (∀(u:World)(G:ba),Mod u w0 (aE pb (.cells #[.slice (some ⟨z,0,none⟩) (M+1) (M+1)] 67 (0,0))*(aE z (.cells (b7 (fP M (y.take i))).toArray 5 (0,0))*G))->Calls Tryz.prog 239 #[.string k,.int .u32 (8*(M:Int)),.func (.func 240) #[] #[ap pb]] u fun e K=>e=.returned (.bool true)/\Mod K w0 (aE pb (.cells #[.slice (some ⟨z,0,none⟩) (M+1) (M+1)] 67 (0,0))*(aE z (.cells (b7 (fP M (y.take (i+1)))).toArray 5 (0,0))*G))):=fun u G mu=>by
    have h:=Dx k hk pb z (M+1) M (fP M (y.take i)) (yP _ _) ae oMg oMg u w0 G mu;rw[<-HT.out,show ((8*M:Nat):Int)=8*(M:Int) by omega]at h;exact h
   clear V B I Z Y hk;go_wp2_with (go_at_call 239;refine(HE.out _ _ m6).mono ?_;rintro e w6 ⟨rfl,m7⟩)
   go_roundg (n-(i+1))
   case measure=>omega
   case rel=>exact⟨i+1,ah,rfl,by go_num,m7⟩
  ·have ag:¬(i:Int)<(n:Int):=oMg
   have he:y.take i=y:=Zn oMg;rw[he]at m6;go_wp2_with fail
   go_ret
   refine⟨some ⟨z,0,none⟩,rfl,?_⟩;rw[HB.out];have hl:=yP M y;have m7:Mod wr w0 (aE z (.cells (b7 (fP M y)).toArray 5 (0,0))*S):=Mod.keep m6;refine EP m7 (Zm _) (by unfold maxLen;omega) (by simp[b7,hl]) (by simp[b7,hl]) ?_;rw[Zn (by simp[b7,hl])]
theorem rP (z:Nat)(O U V:Value)(A:Option Addr)(n c:Nat)(xs:List UInt8)(hn:n<=100000000)(B:Option Addr)(k E:Nat)(y:List UInt8)(I:0<k)(Z:k<=65536)(w w0:World)(S:ba)(m:Mod w w0 (aE z (.cells #[O,U,.slice A n c,V] 241 (0,0))*(ar 5 1 (.slice A n c) n (b7 xs)*S)))(r:bk S B k (b7 y)) :
 Calls Tryz.prog 173 #[ap z,.slice B k E] w fun e J=>e=.returned (.int .i64 (n:Int))/\∃A' c',Mod J w0 (aE z (.cells #[O,U,.slice A' (n+(k+8)) c',V] 241 (0,0))*(ar 5 1 (.slice A' (n+(k+8)) c') (n+(k+8)) (b7 (xs++gt y))*S)):=by
 have Y:Hid (∀(u:World)(G:ba),Mod u w0 G->bk G B k (b7 y)->Calls Tryz.prog 237 #[.slice B k E] u fun e J=>∃A',e=.returned (.tuple #[.slice A' (k+8) (k+8),.int .i64 0])/\Mod J w0 (ar 5 1 (.slice A' (k+8) (k+8)) (k+8) (b7 (gt y))*G)):=fun u G mu ru=>Gf B k E y I Z u w0 G mu ru;have R:=zbj r;clear r;go_enter Tryz.func173,Tryz.ntmps173
 go_wp2_with first
  | (go_at_call 237;refine(Y.out _ _ m (ct zbk R.out)).mono ?_;rintro e w1 ⟨A1,rfl,m1⟩)
  | (at_builtin;refine cS (v:=.slice A n c) (A:=A1) (k:=k+8) (c:=k+8) (news:=b7 (gt y)) rfl rfl (Mod.pull (m:=m1) (ar 5 1 (.slice A n c) n (b7 xs))) rfl rfl (io _) (by unfold maxLen;omega) oMg ?_;intro A2 K w2 m2)
 go_ret
 refine⟨rfl,A2,K,?_⟩;have M:Mod (w2.setCell ⟨z,2,none⟩ (.slice A2 (n+(k+8)) K)) w0 _:=zbk;simp only[Zb,Zc,Zd]at M;rw[eC];exact Mod.keep M
theorem Hj (U:Nat)(ix:Nat)(bP:ix<=1000000)(x2 x3:Value)(A:Option Addr)(n c:Nat)(xs:List UInt8)(hn:n<=100000000)(p:Nat)(hp:p<=100000000)(x:ao)(hx:fS x)(w w0:World)(S:ba)(m:Mod w w0 (aE U (.cells #[.int .i64 (ix:Int),.slice A n c,x2,x3] 241 (0,0))*(ar 5 1 (.slice A n c) n (b7 xs)*S))) :
 Calls Tryz.prog 172 #[ap U,.int .i64 (p:Int),.agg #[.string x.key,.int .u64 (x.seq:Int),.bool true]] w fun e w'=>e=.returned (.tuple #[])/\∃A' c',Mod w' w0 (aE U (.cells #[.int .i64 ((ix:Int)+1),.slice A' (n+(ca p++(fk x.key++(ca x.seq++[1]))).length) c',x2,x3] 241 (0,0))*(ar 5 1 (.slice A' (n+(ca p++(fk x.key++(ca x.seq++[1]))).length) c') (n+(ca p++(fk x.key++(ca x.seq++[1]))).length) (b7 (xs++(ca p++(fk x.key++(ca x.seq++[1])))))*S)):=by
 have bC:=hx.size;have aI:=hx.seq;have bu:=cN (n:=p) oMg;have bz:=cN (n:=x.key.size) oMg;have bB:=cN aI;obtain⟨Y,aY⟩:∃Y,n+(ca p).length=Y:=⟨_,rfl⟩;obtain⟨b1,aF⟩:∃b1,xs++ca p=b1:=⟨_,rfl⟩;obtain⟨V,aZ⟩:∃V,Y+(ca x.key.size).length+x.key.size=V:=⟨_,rfl⟩;obtain⟨b2,aG⟩:∃b2,b1++ca x.key.size++x.key.data.toList=b2:=⟨_,rfl⟩;obtain⟨E,bf⟩:∃E,V+(ca x.seq).length=E:=⟨_,rfl⟩;obtain⟨b3,aH⟩:∃b3,b2++ca x.seq=b3:=⟨_,rfl⟩
 have aQ:Hid (∀(u:World)(G:ba),Mod u w0 G->bk G A n (b7 xs)->Calls Tryz.prog 64 #[.slice A n c,.int .u64 (p:Int)] u fun e w'=>∃A' c',e=.returned (.slice A' Y c')/\Mod w' w0 (ar 5 1 (.slice A' Y c') Y (b7 b1)*G)):=fun u G mu ru=>by
  have h:=kx A n c xs p oMg u w0 G mu ru oMg;rw[aY,aF]at h;exact h
 have ax:Hid (∀(A1:Option Addr)(c1:Nat)(u:World)(G:ba),Mod u w0 G->bk G A1 Y (b7 b1)->Calls Tryz.prog 65 #[.slice A1 Y c1,.string x.key] u fun e w'=>∃A' c',e=.returned (.slice A' V c')/\Mod w' w0 (ar 5 1 (.slice A' V c') V (b7 b2)*G)):=fun A1 c1 u G mu ru=>by
  have h:=j9 A1 Y c1 b1 x.key oMg u w0 G mu ru oMg;rw[aZ,aG]at h;exact h
 have ae:Hid (∀(A1:Option Addr)(c1:Nat)(u:World)(G:ba),Mod u w0 G->bk G A1 V (b7 b2)->Calls Tryz.prog 64 #[.slice A1 V c1,.int .u64 (x.seq:Int)] u fun e w'=>∃A' c',e=.returned (.slice A' E c')/\Mod w' w0 (ar 5 1 (.slice A' E c') E (b7 b3)*G)):=fun A1 c1 u G mu ru=>by
  have h:=kx A1 V c1 b2 x.seq aI u w0 G mu ru oMg;rw[bf,aH]at h;exact h
 have Z:Hid (E+1=n+(ca p++(fk x.key++(ca x.seq++[1]))).length):=by
  show _=_;unfold fk;simp only[Ze,List.length_cons,List.length_nil,vk];omega
 have aa:Hid (b7 b3++[.int .u8 1]=b7 (xs++(ca p++(fk x.key++(ca x.seq++[1]))))):=by
  show _=_;rw[<-aH,<-aG,<-aF];unfold fk;simp[b7]
 have hnb:E<=100002000:=oMg
 have bQ:IntKind.u64.wrap (p:Int)=(p:Int):=by rw[IntKind.wrap_u64];omega
 generalize (ca p++(fk x.key++(ca x.seq++[1])))=bb at *;clear aY aF aZ aG bf aH bu bz bB bC aI hx;go_enter Tryz.func172,Tryz.ntmps172
 go_wp2_with fail
 refine eS 19 (fun u=>u.cell? ⟨w.heap.size,0,none⟩=some (.string x.key)/\u.cell? ⟨w.heap.size,1,none⟩=some (.int .u64 (x.seq:Int))/\u.cell? ⟨U,1,none⟩=some (.slice A n c)) kRf ⟨Za,Za,Za⟩ (fun y=>?_);simp only[Zl,List.length_cons,List.length_nil,Nat.reduceAdd];have mW:Mod (((w.alloc (.cells #[.string x.key,.int .u64 (x.seq:Int),.bool true] 69)).setCell ⟨U,0,none⟩ (.int .i64 ((ix:Int)+1)))).drew w0 _:=Mod.drew (m:=(zbk:Mod ((w.alloc (.cells #[.string x.key,.int .u64 (x.seq:Int),.bool true] 69)).setCell ⟨U,0,none⟩ (.int .i64 ((ix:Int)+1))) w0 _));simp only[Zb,Zc]at mW;obtain⟨W,hW⟩:∃W,W=(((w.alloc (.cells #[.string x.key,.int .u64 (x.seq:Int),.bool true] 69)).setCell ⟨U,0,none⟩ (.int .i64 ((ix:Int)+1)))).drew:=⟨_,rfl⟩;rw[<-hW]at mW y ⊢;clear hW;refine cj 0 (some 16) (v:=?_) rfl rfl kRf (by decide) kRf kRf kRf (fun _ _ _ h=>h) (Or.inl ⟨by rfl,?_⟩) y ?_;rotate_left 1
 ·(intro u B;(try dsimp only at B);obtain⟨I,J,M⟩:=B;go_simp;try with_reducible rfl)
 simp only[Act.put,Zb,Zc,Zd];refine cj 1 (some 17) (v:=?_) rfl rfl kRf (by decide) kRf kRf kRf (fun _ _ _ h=>h) (Or.inl ⟨by rfl,?_⟩) y ?_;rotate_left 1
 ·(intro u B;(try dsimp only at B);obtain⟨I,J,M⟩:=B;go_simp;try with_reducible rfl)
 simp only[Act.put,Zb,Zc,Zd];refine cj 2 (some 18) (v:=?_) rfl rfl kRf (by decide) kRf kRf kRf (fun _ _ _ h=>h) (Or.inl ⟨by rfl,?_⟩) y ?_;rotate_left 1
 ·(intro u B;(try dsimp only at B);obtain⟨I,J,M⟩:=B;go_simp;try with_reducible rfl)
 simp only[Act.put,Zb,Zc,Zd];refine cj 3 (some 19) (v:=?_) rfl rfl kRf (by decide) kRf kRf kRf (fun _ _ _ h=>h) (Or.inl ⟨by rfl,?_⟩) y ?_;rotate_left 1
 ·(intro u B;(try dsimp only at B);obtain⟨I,J,M⟩:=B;go_simp;try with_reducible rfl)
 simp only[Act.put,Zb,Zc,Zd];refine cj 4 (some 20) (v:=?_) rfl rfl kRf (by decide) kRf kRf kRf (fun _ _ _ h=>h) (Or.inl ⟨by rfl,?_⟩) y ?_;rotate_left 1
 ·(intro u B;(try dsimp only at B);obtain⟨I,J,M⟩:=B;go_simp;try with_reducible rfl)
 simp only[Act.put,Zb,Zc,Zd];refine cj 5 (some 21) (v:=?_) rfl rfl kRf (by decide) kRf kRf kRf (fun _ _ _ h=>h) (Or.inl ⟨by rfl,?_⟩) y ?_;rotate_left 1
 ·(intro u B;(try dsimp only at B);obtain⟨I,J,M⟩:=B;go_simp;try with_reducible rfl)
 simp only[Act.put,Zb,Zc,Zd];refine cj 6 (some 22) (v:=?_) rfl rfl kRf (by decide) kRf kRf kRf (fun _ _ _ h=>h) (Or.inl ⟨by rfl,?_⟩) y ?_;rotate_left 1
 ·(intro u B;(try dsimp only at B);obtain⟨I,J,M⟩:=B;go_simp;try with_reducible rfl)
 simp only[Act.put,Zb,Zc,Zd];refine cj 8 (some 24) (v:=?_) rfl rfl kRf (by decide) kRf kRf kRf (fun _ _ _ h=>h) (Or.inl ⟨by rfl,?_⟩) y ?_;rotate_left 1
 ·(intro u B;(try dsimp only at B);obtain⟨I,J,M⟩:=B;go_simp;try with_reducible rfl)
 simp only[Act.put,Zb,Zc,Zd];refine cj 9 (some 25) (v:=?_) rfl rfl kRf (by decide) kRf kRf kRf (fun _ _ _ h=>h) (Or.inl ⟨by rfl,?_⟩) y ?_;rotate_left 1
 ·(intro u B;(try dsimp only at B);obtain⟨I,J,M⟩:=B;go_simp;try with_reducible rfl)
 simp only[Act.put,Zb,Zc,Zd];refine cj 11 (some 27) (v:=?_) rfl rfl kRf (by decide) kRf kRf kRf (fun _ _ _ h=>h) (Or.inl ⟨by rfl,?_⟩) y ?_;rotate_left 1
 ·(intro u B;(try dsimp only at B);obtain⟨I,J,M⟩:=B;go_simp;try with_reducible rfl)
 simp only[Act.put,Zb,Zc,Zd];refine cj 12 (some 28) (v:=?_) rfl rfl kRf (by decide) kRf kRf kRf (fun _ _ _ h=>h) (Or.inl ⟨by rfl,?_⟩) y ?_;rotate_left 1
 ·(intro u B;(try dsimp only at B);obtain⟨I,J,M⟩:=B;go_simp;try with_reducible rfl)
 simp only[Act.put,Zb,Zc,Zd];refine cj 14 (some 30) (v:=?_) rfl rfl kRf (by decide) kRf kRf kRf (fun _ _ _ h=>h) (Or.inl ⟨by rfl,?_⟩) y ?_;rotate_left 1
 ·(intro u B;(try dsimp only at B);obtain⟨I,J,M⟩:=B;go_simp;try with_reducible rfl)
 simp only[Act.put,Zb,Zc,Zd];refine aw (rs:=[7,15]) kRf (by simp) (am.cons (some 23) rfl rfl rfl (fun K z=>?_) (am.cons (some 31) rfl rfl rfl (fun K z=>?_) am.nil))
 ·skip
  go_simp
  refine(aQ.out _ _ mW zbk).mono ?_;rintro e w1 ⟨A3,c4,rfl,m2⟩;refine z.out (.slice A3 Y c4) _ ⟨Za,Za,Za⟩ (fun y=>?_);clear z K;simp only[Act.put,Zb,Zc,Zd];refine aw (rs:=[10,15]) kRf (by simp) (am.cons (some 26) rfl rfl rfl (fun K z=>?_) (am.cons (some 31) rfl rfl rfl (fun K z=>?_) am.nil))
  ·skip
   go_simp
   refine(ax.out A3 c4 _ _ m2 zbk).mono ?_;rintro e w5 ⟨A7,c8,rfl,m6⟩;refine z.out (.slice A7 V c8) _ ⟨Za,Za,Za⟩ (fun y=>?_);clear z K;simp only[Act.put,Zb,Zc,Zd];refine aw (rs:=[13,15]) kRf (by simp) (am.cons (some 29) rfl rfl rfl (fun K z=>?_) (am.cons (some 31) rfl rfl rfl (fun K z=>?_) am.nil))
   ·skip
    go_simp
    refine(ae.out A7 c8 _ _ m6 zbk).mono ?_;rintro e w9 ⟨aJ,aR,rfl,bD⟩;refine z.out (.slice aJ E aR) _ ⟨Za,Za,Za⟩ (fun y=>?_);clear z K;simp only[Act.put,Zb,Zc,Zd];refine aw (rs:=[15]) kRf (by simp) (am.cons (some 31) rfl rfl rfl (fun K z=>?_) am.nil)
    ·skip
     go_simp
     have bE:=(Mod.alloc (m:=bD) (.cells #[.int .u8 1] 5) (n:=w9.heap.size) (hn:=⟨rfl⟩));refine z.out (.slice (some ⟨w9.heap.size,0,none⟩) 1 1) _ ⟨Za,Za,Za⟩ (fun y=>?_);clear z K;simp only[Act.put,Zb,Zc,Zd];obtain⟨bH,af⟩:∃u,u=(w9.alloc (.cells #[.int .u8 1] 5)):=⟨_,rfl⟩;rw[<-af]at bE y ⊢;clear af;refine aw (rs:=[16]) kRf (by simp) (am.cons (some 32) rfl rfl rfl (fun K z=>?_) am.nil)
     ·skip
      refine cI (t:=67) (s:=.tmp 29) (x:=.tmp 31) rfl (zbk:Mod bH w0 _) (v:=.slice aJ E aR) (n:=E) rfl (A:=some ⟨w9.heap.size,0,none⟩) (k:=1) (c:=1) rfl (r:=ce rfl rfl) (by simp[Value.oneCell']) (by unfold maxLen;omega) oMg ?_;intro aj ay bI bR;refine z.out (.slice aj (E+1) ay) _ ⟨Za,Za,Za⟩ (fun y=>?_);clear z K;simp only[Act.put,Zb,Zc,Zd];refine aw (rs:=[17]) kRf (by simp) (am.cons (some 33) rfl rfl rfl (fun K z=>?_) am.nil);go_simp
      refine z.out (ap U) _ ⟨Za,Za,Za⟩ (fun y=>?_);clear z K;simp only[Act.put,Zb,Zc,Zd];refine aw (rs:=[18]) kRf (by simp) (am.cons (some 34) rfl rfl rfl (fun K z=>?_) am.nil);go_simp
      refine z.out (.pointer (some ⟨U,1,none⟩)) _ ⟨Za,Za,Za⟩ (fun y=>?_);clear z K;simp only[Act.put,Zb,Zc,Zd];refine aw (rs:=[19]) kRf (by simp) (am.last none rfl rfl rfl (fun K z=>?_));go_simp
      refine z.out undef _ (fd kRf ?_);clear z K;simp only[Act.put];go_wp2_with fail
      go_end0
      have O:Mod (bI.setCell ⟨U,1,none⟩ (.slice aj (E+1) ay)) w0 _:=zbk;simp only[Zb,Zc,Zd]at O;refine⟨rfl,aj,ay,?_⟩;rw[<-Z.out,<-aa.out];exact Mod.keep O
   ·skip
    go_simp
    have bg:=(Mod.alloc (m:=m6) (.cells #[.int .u8 1] 5) (n:=w5.heap.size) (hn:=⟨rfl⟩));refine z.out (.slice (some ⟨w5.heap.size,0,none⟩) 1 1) _ ⟨Za,Za,Za⟩ (fun y=>?_);clear z K;simp only[Act.put,Zb,Zc,Zd];obtain⟨bY,ag⟩:∃u,u=(w5.alloc (.cells #[.int .u8 1] 5)):=⟨_,rfl⟩;rw[<-ag]at bg y ⊢;clear ag;refine aw (rs:=[13]) kRf (by simp) (am.cons (some 29) rfl rfl rfl (fun K z=>?_) am.nil)
    ·skip
     go_simp
     refine(ae.out A7 c8 _ _ bg zbk).mono ?_;rintro e bJ ⟨aK,aS,rfl,bS⟩;refine z.out (.slice aK E aS) _ ⟨Za,Za,Za⟩ (fun y=>?_);clear z K;simp only[Act.put,Zb,Zc,Zd];refine aw (rs:=[16]) kRf (by simp) (am.cons (some 32) rfl rfl rfl (fun K z=>?_) am.nil)
     ·skip
      refine cI (t:=67) (s:=.tmp 29) (x:=.tmp 31) rfl (zbk:Mod bJ w0 _) (v:=.slice aK E aS) (n:=E) rfl (A:=some ⟨w5.heap.size,0,none⟩) (k:=1) (c:=1) rfl (r:=ce rfl rfl) (by simp[Value.oneCell']) (by unfold maxLen;omega) oMg ?_;intro ak az bK bT;refine z.out (.slice ak (E+1) az) _ ⟨Za,Za,Za⟩ (fun y=>?_);clear z K;simp only[Act.put,Zb,Zc,Zd];refine aw (rs:=[17]) kRf (by simp) (am.cons (some 33) rfl rfl rfl (fun K z=>?_) am.nil);go_simp
      refine z.out (ap U) _ ⟨Za,Za,Za⟩ (fun y=>?_);clear z K;simp only[Act.put,Zb,Zc,Zd];refine aw (rs:=[18]) kRf (by simp) (am.cons (some 34) rfl rfl rfl (fun K z=>?_) am.nil);go_simp
      refine z.out (.pointer (some ⟨U,1,none⟩)) _ ⟨Za,Za,Za⟩ (fun y=>?_);clear z K;simp only[Act.put,Zb,Zc,Zd];refine aw (rs:=[19]) kRf (by simp) (am.last none rfl rfl rfl (fun K z=>?_));go_simp
      refine z.out undef _ (fd kRf ?_);clear z K;simp only[Act.put];go_wp2_with fail
      go_end0
      have O:Mod (bK.setCell ⟨U,1,none⟩ (.slice ak (E+1) az)) w0 _:=zbk;simp only[Zb,Zc,Zd]at O;refine⟨rfl,ak,az,?_⟩;rw[<-Z.out,<-aa.out];exact Mod.keep O
  ·skip
   go_simp
   have bn:=(Mod.alloc (m:=m2) (.cells #[.int .u8 1] 5) (n:=w1.heap.size) (hn:=⟨rfl⟩));refine z.out (.slice (some ⟨w1.heap.size,0,none⟩) 1 1) _ ⟨Za,Za,Za⟩ (fun y=>?_);clear z K;simp only[Act.put,Zb,Zc,Zd];obtain⟨bZ,ah⟩:∃u,u=(w1.alloc (.cells #[.int .u8 1] 5)):=⟨_,rfl⟩;rw[<-ah]at bn y ⊢;clear ah;refine aw (rs:=[10]) kRf (by simp) (am.cons (some 26) rfl rfl rfl (fun K z=>?_) am.nil)
   ·skip
    go_simp
    refine(ax.out A3 c4 _ _ bn zbk).mono ?_;rintro e cu ⟨aL,aT,rfl,Pi⟩;refine z.out (.slice aL V aT) _ ⟨Za,Za,Za⟩ (fun y=>?_);clear z K;simp only[Act.put,Zb,Zc,Zd];refine aw (rs:=[13]) kRf (by simp) (am.cons (some 29) rfl rfl rfl (fun K z=>?_) am.nil)
    ·skip
     go_simp
     refine(ae.out aL aT _ _ Pi zbk).mono ?_;rintro e bL ⟨aM,aU,rfl,bU⟩;refine z.out (.slice aM E aU) _ ⟨Za,Za,Za⟩ (fun y=>?_);clear z K;simp only[Act.put,Zb,Zc,Zd];refine aw (rs:=[16]) kRf (by simp) (am.cons (some 32) rfl rfl rfl (fun K z=>?_) am.nil)
     ·skip
      refine cI (t:=67) (s:=.tmp 29) (x:=.tmp 31) rfl (zbk:Mod bL w0 _) (v:=.slice aM E aU) (n:=E) rfl (A:=some ⟨w1.heap.size,0,none⟩) (k:=1) (c:=1) rfl (r:=ce rfl rfl) (by simp[Value.oneCell']) (by unfold maxLen;omega) oMg ?_;intro au aB bM bV;refine z.out (.slice au (E+1) aB) _ ⟨Za,Za,Za⟩ (fun y=>?_);clear z K;simp only[Act.put,Zb,Zc,Zd];refine aw (rs:=[17]) kRf (by simp) (am.cons (some 33) rfl rfl rfl (fun K z=>?_) am.nil);go_simp
      refine z.out (ap U) _ ⟨Za,Za,Za⟩ (fun y=>?_);clear z K;simp only[Act.put,Zb,Zc,Zd];refine aw (rs:=[18]) kRf (by simp) (am.cons (some 34) rfl rfl rfl (fun K z=>?_) am.nil);go_simp
      refine z.out (.pointer (some ⟨U,1,none⟩)) _ ⟨Za,Za,Za⟩ (fun y=>?_);clear z K;simp only[Act.put,Zb,Zc,Zd];refine aw (rs:=[19]) kRf (by simp) (am.last none rfl rfl rfl (fun K z=>?_));go_simp
      refine z.out undef _ (fd kRf ?_);clear z K;simp only[Act.put];go_wp2_with fail
      go_end0
      have O:Mod (bM.setCell ⟨U,1,none⟩ (.slice au (E+1) aB)) w0 _:=zbk;simp only[Zb,Zc,Zd]at O;refine⟨rfl,au,aB,?_⟩;rw[<-Z.out,<-aa.out];exact Mod.keep O
 ·skip
  go_simp
  have bq:=(Mod.alloc (m:=mW) (.cells #[.int .u8 1] 5) (n:=W.heap.size) (hn:=⟨rfl⟩));refine z.out (.slice (some ⟨W.heap.size,0,none⟩) 1 1) _ ⟨Za,Za,Za⟩ (fun y=>?_);clear z K;simp only[Act.put,Zb,Zc,Zd];obtain⟨cz,ai⟩:∃u,u=(W.alloc (.cells #[.int .u8 1] 5)):=⟨_,rfl⟩;rw[<-ai]at bq y ⊢;clear ai;refine aw (rs:=[7]) kRf (by simp) (am.cons (some 23) rfl rfl rfl (fun K z=>?_) am.nil)
  ·skip
   go_simp
   refine(aQ.out _ _ bq zbk).mono ?_;rintro e cB ⟨aN,aV,rfl,bF⟩;refine z.out (.slice aN Y aV) _ ⟨Za,Za,Za⟩ (fun y=>?_);clear z K;simp only[Act.put,Zb,Zc,Zd];refine aw (rs:=[10]) kRf (by simp) (am.cons (some 26) rfl rfl rfl (fun K z=>?_) am.nil)
   ·skip
    go_simp
    refine(ax.out aN aV _ _ bF zbk).mono ?_;rintro e cK ⟨aO,aW,rfl,bG⟩;refine z.out (.slice aO V aW) _ ⟨Za,Za,Za⟩ (fun y=>?_);clear z K;simp only[Act.put,Zb,Zc,Zd];refine aw (rs:=[13]) kRf (by simp) (am.cons (some 29) rfl rfl rfl (fun K z=>?_) am.nil)
    ·skip
     go_simp
     refine(ae.out aO aW _ _ bG zbk).mono ?_;rintro e bN ⟨aP,aX,rfl,bW⟩;refine z.out (.slice aP E aX) _ ⟨Za,Za,Za⟩ (fun y=>?_);clear z K;simp only[Act.put,Zb,Zc,Zd];refine aw (rs:=[16]) kRf (by simp) (am.cons (some 32) rfl rfl rfl (fun K z=>?_) am.nil)
     ·skip
      refine cI (t:=67) (s:=.tmp 29) (x:=.tmp 31) rfl (zbk:Mod bN w0 _) (v:=.slice aP E aX) (n:=E) rfl (A:=some ⟨W.heap.size,0,none⟩) (k:=1) (c:=1) rfl (r:=ce rfl rfl) (by simp[Value.oneCell']) (by unfold maxLen;omega) oMg ?_;intro av aD bO bX;refine z.out (.slice av (E+1) aD) _ ⟨Za,Za,Za⟩ (fun y=>?_);clear z K;simp only[Act.put,Zb,Zc,Zd];refine aw (rs:=[17]) kRf (by simp) (am.cons (some 33) rfl rfl rfl (fun K z=>?_) am.nil);go_simp
      refine z.out (ap U) _ ⟨Za,Za,Za⟩ (fun y=>?_);clear z K;simp only[Act.put,Zb,Zc,Zd];refine aw (rs:=[18]) kRf (by simp) (am.cons (some 34) rfl rfl rfl (fun K z=>?_) am.nil);go_simp
      refine z.out (.pointer (some ⟨U,1,none⟩)) _ ⟨Za,Za,Za⟩ (fun y=>?_);clear z K;simp only[Act.put,Zb,Zc,Zd];refine aw (rs:=[19]) kRf (by simp) (am.last none rfl rfl rfl (fun K z=>?_));go_simp
      refine z.out undef _ (fd kRf ?_);clear z K;simp only[Act.put];go_wp2_with fail
      go_end0
      have O:Mod (bO.setCell ⟨U,1,none⟩ (.slice av (E+1) aD)) w0 _:=zbk;simp only[Zb,Zc,Zd]at O;refine⟨rfl,av,aD,?_⟩;rw[<-Z.out,<-aa.out];exact Mod.keep O
theorem KG (U:Nat)(ix:Nat)(cO:ix<=1000000)(x2 x3:Value)(A:Option Addr)(n c:Nat)(xs:List UInt8)(hn:n<=100000000)(p:Nat)(hp:p<=100000000)(x:ao)(hx:fS x)(w w0:World)(S:ba)(m:Mod w w0 (aE U (.cells #[.int .i64 (ix:Int),.slice A n c,x2,x3] 241 (0,0))*(ar 5 1 (.slice A n c) n (b7 xs)*S))) :
 Calls Tryz.prog 172 #[ap U,.int .i64 (p:Int),.agg #[.string x.key,.int .u64 (x.seq:Int),.bool false]] w fun e w'=>e=.returned (.tuple #[])/\∃A' c',Mod w' w0 (aE U (.cells #[.int .i64 ((ix:Int)+1),.slice A' (n+(ca p++(fk x.key++(ca x.seq++[0]))).length) c',x2,x3] 241 (0,0))*(ar 5 1 (.slice A' (n+(ca p++(fk x.key++(ca x.seq++[0]))).length) c') (n+(ca p++(fk x.key++(ca x.seq++[0]))).length) (b7 (xs++(ca p++(fk x.key++(ca x.seq++[0])))))*S)):=by
 have bO:=hx.size;have aV:=hx.seq;have bL:=cN (n:=p) oMg;have bM:=cN (n:=x.key.size) oMg;have bN:=cN aV;obtain⟨n1,bz⟩:∃n1,n+(ca p).length=n1:=⟨_,rfl⟩;obtain⟨b1,aS⟩:∃b1,xs++ca p=b1:=⟨_,rfl⟩;obtain⟨V,bB⟩:∃V,n1+(ca x.key.size).length+x.key.size=V:=⟨_,rfl⟩;obtain⟨b2,aT⟩:∃b2,b1++ca x.key.size++x.key.data.toList=b2:=⟨_,rfl⟩;obtain⟨E,bC⟩:∃E,V+(ca x.seq).length=E:=⟨_,rfl⟩;obtain⟨b3,aU⟩:∃b3,b2++ca x.seq=b3:=⟨_,rfl⟩
 have bf:Hid (∀(u:World)(G:ba),Mod u w0 G->bk G A n (b7 xs)->Calls Tryz.prog 64 #[.slice A n c,.int .u64 (p:Int)] u fun e w'=>∃A' c',e=.returned (.slice A' n1 c')/\Mod w' w0 (ar 5 1 (.slice A' n1 c') n1 (b7 b1)*G)):=fun u G mu ru=>by
  have h:=kx A n c xs p oMg u w0 G mu ru oMg;rw[bz,aS]at h;exact h
 have aN:Hid (∀(A1:Option Addr)(c1:Nat)(u:World)(G:ba),Mod u w0 G->bk G A1 n1 (b7 b1)->Calls Tryz.prog 65 #[.slice A1 n1 c1,.string x.key] u fun e w'=>∃A' c',e=.returned (.slice A' V c')/\Mod w' w0 (ar 5 1 (.slice A' V c') V (b7 b2)*G)):=fun A1 c1 u G mu ru=>by
  have h:=j9 A1 n1 c1 b1 x.key oMg u w0 G mu ru oMg;rw[bB,aT]at h;exact h
 have ai:Hid (∀(A1:Option Addr)(c1:Nat)(u:World)(G:ba),Mod u w0 G->bk G A1 V (b7 b2)->Calls Tryz.prog 64 #[.slice A1 V c1,.int .u64 (x.seq:Int)] u fun e w'=>∃A' c',e=.returned (.slice A' E c')/\Mod w' w0 (ar 5 1 (.slice A' E c') E (b7 b3)*G)):=fun A1 c1 u G mu ru=>by
  have h:=kx A1 V c1 b2 x.seq aV u w0 G mu ru oMg;rw[bC,aU]at h;exact h
 have ag:Hid (E+1=n+(ca p++(fk x.key++(ca x.seq++[0]))).length):=by
  show _=_;unfold fk;simp only[Ze,List.length_cons,List.length_nil,vk];omega
 have ah:Hid (b7 b3++[.int .u8 0]=b7 (xs++(ca p++(fk x.key++(ca x.seq++[0]))))):=by
  show _=_;rw[<-aU,<-aT,<-aS];unfold fk;simp[b7]
 have hnb:E<=100002000:=oMg
 have cZ:IntKind.u64.wrap (p:Int)=(p:Int):=by rw[IntKind.wrap_u64];omega
 generalize (ca p++(fk x.key++(ca x.seq++[0])))=bb at *;clear bz aS bB aT bC aU bL bM bN bO aV hx;go_enter Tryz.func172,Tryz.ntmps172
 go_wp2_with fail
 refine eS 19 (fun u=>u.cell? ⟨w.heap.size,0,none⟩=some (.string x.key)/\u.cell? ⟨w.heap.size,1,none⟩=some (.int .u64 (x.seq:Int))/\u.cell? ⟨U,1,none⟩=some (.slice A n c)) kRf ⟨Za,Za,Za⟩ (fun y=>?_);simp only[Zl,List.length_cons,List.length_nil,Nat.reduceAdd];have mW:Mod (((w.alloc (.cells #[.string x.key,.int .u64 (x.seq:Int),.bool false] 69)).setCell ⟨U,0,none⟩ (.int .i64 ((ix:Int)+1)))).drew w0 _:=Mod.drew (m:=(zbk:Mod ((w.alloc (.cells #[.string x.key,.int .u64 (x.seq:Int),.bool false] 69)).setCell ⟨U,0,none⟩ (.int .i64 ((ix:Int)+1))) w0 _));simp only[Zb,Zc]at mW;obtain⟨W,hW⟩:∃W,W=(((w.alloc (.cells #[.string x.key,.int .u64 (x.seq:Int),.bool false] 69)).setCell ⟨U,0,none⟩ (.int .i64 ((ix:Int)+1)))).drew:=⟨_,rfl⟩;rw[<-hW]at mW y ⊢;clear hW;refine cj 0 (some 16) (v:=?_) rfl rfl kRf (by decide) kRf kRf kRf (fun _ _ _ h=>h) (Or.inl ⟨by rfl,?_⟩) y ?_;rotate_left 1
 ·(intro u B;(try dsimp only at B);obtain⟨I,J,M⟩:=B;go_simp;try with_reducible rfl)
 simp only[Act.put,Zb,Zc,Zd];refine cj 1 (some 17) (v:=?_) rfl rfl kRf (by decide) kRf kRf kRf (fun _ _ _ h=>h) (Or.inl ⟨by rfl,?_⟩) y ?_;rotate_left 1
 ·(intro u B;(try dsimp only at B);obtain⟨I,J,M⟩:=B;go_simp;try with_reducible rfl)
 simp only[Act.put,Zb,Zc,Zd];refine cj 2 (some 18) (v:=?_) rfl rfl kRf (by decide) kRf kRf kRf (fun _ _ _ h=>h) (Or.inl ⟨by rfl,?_⟩) y ?_;rotate_left 1
 ·(intro u B;(try dsimp only at B);obtain⟨I,J,M⟩:=B;go_simp;try with_reducible rfl)
 simp only[Act.put,Zb,Zc,Zd];refine cj 3 (some 19) (v:=?_) rfl rfl kRf (by decide) kRf kRf kRf (fun _ _ _ h=>h) (Or.inl ⟨by rfl,?_⟩) y ?_;rotate_left 1
 ·(intro u B;(try dsimp only at B);obtain⟨I,J,M⟩:=B;go_simp;try with_reducible rfl)
 simp only[Act.put,Zb,Zc,Zd];refine cj 4 (some 20) (v:=?_) rfl rfl kRf (by decide) kRf kRf kRf (fun _ _ _ h=>h) (Or.inl ⟨by rfl,?_⟩) y ?_;rotate_left 1
 ·(intro u B;(try dsimp only at B);obtain⟨I,J,M⟩:=B;go_simp;try with_reducible rfl)
 simp only[Act.put,Zb,Zc,Zd];refine cj 5 (some 21) (v:=?_) rfl rfl kRf (by decide) kRf kRf kRf (fun _ _ _ h=>h) (Or.inl ⟨by rfl,?_⟩) y ?_;rotate_left 1
 ·(intro u B;(try dsimp only at B);obtain⟨I,J,M⟩:=B;go_simp;try with_reducible rfl)
 simp only[Act.put,Zb,Zc,Zd];refine cj 6 (some 22) (v:=?_) rfl rfl kRf (by decide) kRf kRf kRf (fun _ _ _ h=>h) (Or.inl ⟨by rfl,?_⟩) y ?_;rotate_left 1
 ·(intro u B;(try dsimp only at B);obtain⟨I,J,M⟩:=B;go_simp;try with_reducible rfl)
 simp only[Act.put,Zb,Zc,Zd];refine cj 8 (some 24) (v:=?_) rfl rfl kRf (by decide) kRf kRf kRf (fun _ _ _ h=>h) (Or.inl ⟨by rfl,?_⟩) y ?_;rotate_left 1
 ·(intro u B;(try dsimp only at B);obtain⟨I,J,M⟩:=B;go_simp;try with_reducible rfl)
 simp only[Act.put,Zb,Zc,Zd];refine cj 9 (some 25) (v:=?_) rfl rfl kRf (by decide) kRf kRf kRf (fun _ _ _ h=>h) (Or.inl ⟨by rfl,?_⟩) y ?_;rotate_left 1
 ·(intro u B;(try dsimp only at B);obtain⟨I,J,M⟩:=B;go_simp;try with_reducible rfl)
 simp only[Act.put,Zb,Zc,Zd];refine cj 11 (some 27) (v:=?_) rfl rfl kRf (by decide) kRf kRf kRf (fun _ _ _ h=>h) (Or.inl ⟨by rfl,?_⟩) y ?_;rotate_left 1
 ·(intro u B;(try dsimp only at B);obtain⟨I,J,M⟩:=B;go_simp;try with_reducible rfl)
 simp only[Act.put,Zb,Zc,Zd];refine cj 12 (some 28) (v:=?_) rfl rfl kRf (by decide) kRf kRf kRf (fun _ _ _ h=>h) (Or.inl ⟨by rfl,?_⟩) y ?_;rotate_left 1
 ·(intro u B;(try dsimp only at B);obtain⟨I,J,M⟩:=B;go_simp;try with_reducible rfl)
 simp only[Act.put,Zb,Zc,Zd];refine cj 14 (some 30) (v:=?_) rfl rfl kRf (by decide) kRf kRf kRf (fun _ _ _ h=>h) (Or.inl ⟨by rfl,?_⟩) y ?_;rotate_left 1
 ·(intro u B;(try dsimp only at B);obtain⟨I,J,M⟩:=B;go_simp;try with_reducible rfl)
 simp only[Act.put,Zb,Zc,Zd];refine aw (rs:=[7,15]) kRf (by simp) (am.cons (some 23) rfl rfl rfl (fun K z=>?_) (am.cons (some 31) rfl rfl rfl (fun K z=>?_) am.nil))
 ·skip
  go_simp
  refine(bf.out _ _ mW zbk).mono ?_;rintro e aj ⟨aJ,aO,rfl,bF⟩;refine z.out (.slice aJ n1 aO) _ ⟨Za,Za,Za⟩ (fun y=>?_);clear z K;simp only[Act.put,Zb,Zc,Zd];refine aw (rs:=[10,15]) kRf (by simp) (am.cons (some 26) rfl rfl rfl (fun K z=>?_) (am.cons (some 31) rfl rfl rfl (fun K z=>?_) am.nil))
  ·skip
   go_simp
   refine(aN.out aJ aO _ _ bF zbk).mono ?_;rintro e ak ⟨aK,aP,rfl,bG⟩;refine z.out (.slice aK V aP) _ ⟨Za,Za,Za⟩ (fun y=>?_);clear z K;simp only[Act.put,Zb,Zc,Zd];refine aw (rs:=[13,15]) kRf (by simp) (am.cons (some 29) rfl rfl rfl (fun K z=>?_) (am.cons (some 31) rfl rfl rfl (fun K z=>?_) am.nil))
   ·skip
    go_simp
    refine(ai.out aK aP _ _ bG zbk).mono ?_;rintro e au ⟨aW,bg,rfl,bP⟩;refine z.out (.slice aW E bg) _ ⟨Za,Za,Za⟩ (fun y=>?_);clear z K;simp only[Act.put,Zb,Zc,Zd];refine aw (rs:=[15]) kRf (by simp) (am.cons (some 31) rfl rfl rfl (fun K z=>?_) am.nil)
    ·skip
     go_simp
     have bQ:=(Mod.alloc (m:=bP) (.cells #[.int .u8 0] 5) (n:=au.heap.size) (hn:=⟨rfl⟩));refine z.out (.slice (some ⟨au.heap.size,0,none⟩) 1 1) _ ⟨Za,Za,Za⟩ (fun y=>?_);clear z K;simp only[Act.put,Zb,Zc,Zd];obtain⟨bS,aF⟩:∃u,u=(au.alloc (.cells #[.int .u8 0] 5)):=⟨_,rfl⟩;rw[<-aF]at bQ y ⊢;clear aF;refine aw (rs:=[16]) kRf (by simp) (am.cons (some 32) rfl rfl rfl (fun K z=>?_) am.nil)
     ·skip
      refine cI (t:=67) (s:=.tmp 29) (x:=.tmp 31) rfl (zbk:Mod bS w0 _) (v:=.slice aW E bg) (n:=E) rfl (A:=some ⟨au.heap.size,0,none⟩) (k:=1) (c:=1) rfl (r:=ce rfl rfl) (by simp[Value.oneCell']) (by unfold maxLen;omega) oMg ?_;intro aL aQ bT df;refine z.out (.slice aL (E+1) aQ) _ ⟨Za,Za,Za⟩ (fun y=>?_);clear z K;simp only[Act.put,Zb,Zc,Zd];refine aw (rs:=[17]) kRf (by simp) (am.cons (some 33) rfl rfl rfl (fun K z=>?_) am.nil);go_simp
      refine z.out (ap U) _ ⟨Za,Za,Za⟩ (fun y=>?_);clear z K;simp only[Act.put,Zb,Zc,Zd];refine aw (rs:=[18]) kRf (by simp) (am.cons (some 34) rfl rfl rfl (fun K z=>?_) am.nil);go_simp
      refine z.out (.pointer (some ⟨U,1,none⟩)) _ ⟨Za,Za,Za⟩ (fun y=>?_);clear z K;simp only[Act.put,Zb,Zc,Zd];refine aw (rs:=[19]) kRf (by simp) (am.last none rfl rfl rfl (fun K z=>?_));go_simp
      refine z.out undef _ (fd kRf ?_);clear z K;simp only[Act.put];go_wp2_with fail
      go_end0
      have O:Mod (bT.setCell ⟨U,1,none⟩ (.slice aL (E+1) aQ)) w0 _:=zbk;simp only[Zb,Zc,Zd]at O;refine⟨rfl,aL,aQ,?_⟩;rw[<-ag.out,<-ah.out];exact Mod.keep O
   ·skip
    go_simp
    have bH:=(Mod.alloc (m:=bG) (.cells #[.int .u8 0] 5) (n:=ak.heap.size) (hn:=⟨rfl⟩));refine z.out (.slice (some ⟨ak.heap.size,0,none⟩) 1 1) _ ⟨Za,Za,Za⟩ (fun y=>?_);clear z K;simp only[Act.put,Zb,Zc,Zd];obtain⟨dn,aG⟩:∃u,u=(ak.alloc (.cells #[.int .u8 0] 5)):=⟨_,rfl⟩;rw[<-aG]at bH y ⊢;clear aG;refine aw (rs:=[13]) kRf (by simp) (am.cons (some 29) rfl rfl rfl (fun K z=>?_) am.nil)
    ·skip
     go_simp
     refine(ai.out aK aP _ _ bH zbk).mono ?_;rintro e bU ⟨aX,bn,rfl,dh⟩;refine z.out (.slice aX E bn) _ ⟨Za,Za,Za⟩ (fun y=>?_);clear z K;simp only[Act.put,Zb,Zc,Zd];refine aw (rs:=[16]) kRf (by simp) (am.cons (some 32) rfl rfl rfl (fun K z=>?_) am.nil)
     ·skip
      refine cI (t:=67) (s:=.tmp 29) (x:=.tmp 31) rfl (zbk:Mod bU w0 _) (v:=.slice aX E bn) (n:=E) rfl (A:=some ⟨ak.heap.size,0,none⟩) (k:=1) (c:=1) rfl (r:=ce rfl rfl) (by simp[Value.oneCell']) (by unfold maxLen;omega) oMg ?_;intro aM aR bV di;refine z.out (.slice aM (E+1) aR) _ ⟨Za,Za,Za⟩ (fun y=>?_);clear z K;simp only[Act.put,Zb,Zc,Zd];refine aw (rs:=[17]) kRf (by simp) (am.cons (some 33) rfl rfl rfl (fun K z=>?_) am.nil);go_simp
      refine z.out (ap U) _ ⟨Za,Za,Za⟩ (fun y=>?_);clear z K;simp only[Act.put,Zb,Zc,Zd];refine aw (rs:=[18]) kRf (by simp) (am.cons (some 34) rfl rfl rfl (fun K z=>?_) am.nil);go_simp
      refine z.out (.pointer (some ⟨U,1,none⟩)) _ ⟨Za,Za,Za⟩ (fun y=>?_);clear z K;simp only[Act.put,Zb,Zc,Zd];refine aw (rs:=[19]) kRf (by simp) (am.last none rfl rfl rfl (fun K z=>?_));go_simp
      refine z.out undef _ (fd kRf ?_);clear z K;simp only[Act.put];go_wp2_with fail
      go_end0
      have O:Mod (bV.setCell ⟨U,1,none⟩ (.slice aM (E+1) aR)) w0 _:=zbk;simp only[Zb,Zc,Zd]at O;refine⟨rfl,aM,aR,?_⟩;rw[<-ag.out,<-ah.out];exact Mod.keep O
  ·skip
   go_simp
   have bI:=(Mod.alloc (m:=bF) (.cells #[.int .u8 0] 5) (n:=aj.heap.size) (hn:=⟨rfl⟩));refine z.out (.slice (some ⟨aj.heap.size,0,none⟩) 1 1) _ ⟨Za,Za,Za⟩ (fun y=>?_);clear z K;simp only[Act.put,Zb,Zc,Zd];obtain⟨dw,aH⟩:∃u,u=(aj.alloc (.cells #[.int .u8 0] 5)):=⟨_,rfl⟩;rw[<-aH]at bI y ⊢;clear aH;refine aw (rs:=[10]) kRf (by simp) (am.cons (some 26) rfl rfl rfl (fun K z=>?_) am.nil)
   ·skip
    go_simp
    refine(aN.out aJ aO _ _ bI zbk).mono ?_;rintro e dx ⟨aY,bq,rfl,bR⟩;refine z.out (.slice aY V bq) _ ⟨Za,Za,Za⟩ (fun y=>?_);clear z K;simp only[Act.put,Zb,Zc,Zd];refine aw (rs:=[13]) kRf (by simp) (am.cons (some 29) rfl rfl rfl (fun K z=>?_) am.nil)
    ·skip
     go_simp
     refine(ai.out aY bq _ _ bR zbk).mono ?_;rintro e bW ⟨aZ,bu,rfl,dm⟩;refine z.out (.slice aZ E bu) _ ⟨Za,Za,Za⟩ (fun y=>?_);clear z K;simp only[Act.put,Zb,Zc,Zd];refine aw (rs:=[16]) kRf (by simp) (am.cons (some 32) rfl rfl rfl (fun K z=>?_) am.nil)
     ·skip
      refine cI (t:=67) (s:=.tmp 29) (x:=.tmp 31) rfl (zbk:Mod bW w0 _) (v:=.slice aZ E bu) (n:=E) rfl (A:=some ⟨aj.heap.size,0,none⟩) (k:=1) (c:=1) rfl (r:=ce rfl rfl) (by simp[Value.oneCell']) (by unfold maxLen;omega) oMg ?_;intro Y aa bX bY;refine z.out (.slice Y (E+1) aa) _ ⟨Za,Za,Za⟩ (fun y=>?_);clear z K;simp only[Act.put,Zb,Zc,Zd];refine aw (rs:=[17]) kRf (by simp) (am.cons (some 33) rfl rfl rfl (fun K z=>?_) am.nil);go_simp
      refine z.out (ap U) _ ⟨Za,Za,Za⟩ (fun y=>?_);clear z K;simp only[Act.put,Zb,Zc,Zd];refine aw (rs:=[18]) kRf (by simp) (am.cons (some 34) rfl rfl rfl (fun K z=>?_) am.nil);go_simp
      refine z.out (.pointer (some ⟨U,1,none⟩)) _ ⟨Za,Za,Za⟩ (fun y=>?_);clear z K;simp only[Act.put,Zb,Zc,Zd];refine aw (rs:=[19]) kRf (by simp) (am.last none rfl rfl rfl (fun K z=>?_));go_simp
      refine z.out undef _ (fd kRf ?_);clear z K;simp only[Act.put];go_wp2_with fail
      go_end0
      have O:Mod (bX.setCell ⟨U,1,none⟩ (.slice Y (E+1) aa)) w0 _:=zbk;simp only[Zb,Zc,Zd]at O;refine⟨rfl,Y,aa,?_⟩;rw[<-ag.out,<-ah.out];exact Mod.keep O
 ·skip
  go_simp
  have aI:=(Mod.alloc (m:=mW) (.cells #[.int .u8 0] 5) (n:=W.heap.size) (hn:=⟨rfl⟩));refine z.out (.slice (some ⟨W.heap.size,0,none⟩) 1 1) _ ⟨Za,Za,Za⟩ (fun y=>?_);clear z K;simp only[Act.put,Zb,Zc,Zd];obtain⟨cz,af⟩:∃u,u=(W.alloc (.cells #[.int .u8 0] 5)):=⟨_,rfl⟩;rw[<-af]at aI y ⊢;clear af;refine aw (rs:=[7]) kRf (by simp) (am.cons (some 23) rfl rfl rfl (fun K z=>?_) am.nil)
  ·skip
   go_simp
   refine(bf.out _ _ aI zbk).mono ?_;rintro e cB ⟨av,az,rfl,bD⟩;refine z.out (.slice av n1 az) _ ⟨Za,Za,Za⟩ (fun y=>?_);clear z K;simp only[Act.put,Zb,Zc,Zd];refine aw (rs:=[10]) kRf (by simp) (am.cons (some 26) rfl rfl rfl (fun K z=>?_) am.nil)
   ·skip
    go_simp
    refine(aN.out av az _ _ bD zbk).mono ?_;rintro e cK ⟨ax,aB,rfl,bE⟩;refine z.out (.slice ax V aB) _ ⟨Za,Za,Za⟩ (fun y=>?_);clear z K;simp only[Act.put,Zb,Zc,Zd];refine aw (rs:=[13]) kRf (by simp) (am.cons (some 29) rfl rfl rfl (fun K z=>?_) am.nil)
    ·skip
     go_simp
     refine(ai.out ax aB _ _ bE zbk).mono ?_;rintro e bJ ⟨ay,aD,rfl,bZ⟩;refine z.out (.slice ay E aD) _ ⟨Za,Za,Za⟩ (fun y=>?_);clear z K;simp only[Act.put,Zb,Zc,Zd];refine aw (rs:=[16]) kRf (by simp) (am.cons (some 32) rfl rfl rfl (fun K z=>?_) am.nil)
     ·skip
      refine cI (t:=67) (s:=.tmp 29) (x:=.tmp 31) rfl (zbk:Mod bJ w0 _) (v:=.slice ay E aD) (n:=E) rfl (A:=some ⟨W.heap.size,0,none⟩) (k:=1) (c:=1) rfl (r:=ce rfl rfl) (by simp[Value.oneCell']) (by unfold maxLen;omega) oMg ?_;intro Z ae bK cu;refine z.out (.slice Z (E+1) ae) _ ⟨Za,Za,Za⟩ (fun y=>?_);clear z K;simp only[Act.put,Zb,Zc,Zd];refine aw (rs:=[17]) kRf (by simp) (am.cons (some 33) rfl rfl rfl (fun K z=>?_) am.nil);go_simp
      refine z.out (ap U) _ ⟨Za,Za,Za⟩ (fun y=>?_);clear z K;simp only[Act.put,Zb,Zc,Zd];refine aw (rs:=[18]) kRf (by simp) (am.cons (some 34) rfl rfl rfl (fun K z=>?_) am.nil);go_simp
      refine z.out (.pointer (some ⟨U,1,none⟩)) _ ⟨Za,Za,Za⟩ (fun y=>?_);clear z K;simp only[Act.put,Zb,Zc,Zd];refine aw (rs:=[19]) kRf (by simp) (am.last none rfl rfl rfl (fun K z=>?_));go_simp
      refine z.out undef _ (fd kRf ?_);clear z K;simp only[Act.put];go_wp2_with fail
      go_end0
      have O:Mod (bK.setCell ⟨U,1,none⟩ (.slice Z (E+1) ae)) w0 _:=zbk;simp only[Zb,Zc,Zd]at O;refine⟨rfl,Z,ae,?_⟩;rw[<-ag.out,<-ah.out];exact Mod.keep O
end Go.Proofs.YtdfppjcaelghhaaGreatDoor
