/- The law FnDeep: its context and what draws. -/
import Derived.Test.YthggppjdapmgdaaDp3
import Derived.Test.YthggppjdapmgdaaDrC
